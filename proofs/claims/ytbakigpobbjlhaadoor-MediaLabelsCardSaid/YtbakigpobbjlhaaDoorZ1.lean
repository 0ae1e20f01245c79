/- Part 1 of the texts behind this claim. -/
import Derived.Test.YtbakigpobbjlhaaDoorEngV
import Derived.Test.YtbakigpobbjlhaaDoorCtxS
import Derived.Test.YtbakigpobbjlhaaDoorLu
import Derived.Test.YtbakigpobbjlhaaDoorPt
set_option linter.all false

namespace Go.Eng
open Go.RowKit

def cvtK (v : AV) (k : IntKind) (dst : Option Tmp) (K : List AV → Store → Prop) (fr : List AV) (S : Store) (P : Prop) : Prop :=
  match v with
  | .int _ n => K (putA fr dst (.int k (k.wrap n))) S
  | _ => P
theorem cvtK_int {k k' : IntKind} {n : Int} {dst : Option Tmp} {K : List AV → Store → Prop} {fr : List AV} {S : Store} {P : Prop} : cvtK (.int k' n) k dst K fr S P = K (putA fr dst (.int k (k.wrap n))) S := rfl
theorem wpK_cvt {X : Ctx} {d : Bool} {dst : Option Tmp} {ty : TypeId} {pos : String} {after : Array Edge} {g : Option (Nat × Bool)} {K : List AV → Store → Prop} {fr : List AV} {S : Store} {s t : TypeId} {x : Operand} {i j : TyI} {k : IntKind} (hs : X.ty s = some j) (ht : X.ty t = some i) (hk : i.desc = .int k) :
    wpK X d ⟨dst, .convert s t x, ty, pos, after, g⟩ dst K fr S = cvtK (evalA fr x) k dst K fr S (wp1 X d ⟨dst, .convert s t x, ty, pos, after, g⟩ (fun v S' => K (putA fr dst v) S') fr S) := by
  obtain ⟨a, b, c, e, f⟩ := i
  simp only at hk; subst hk
  unfold cvtK
  split
  · rename_i k' n hv
    unfold wpK wp1
    simp only [popA, convA, hs, ht, hv]
  · unfold wpK; rfl

def bsK (y : AV) (dst : Option Tmp) (K : List AV → Store → Prop) (fr : List AV) (S : Store) (P : Prop) : Prop :=
  match y with
  | .sl b e off len sz => match rowsOf S 1 (.sl b e off len sz) with
    | some (rows, _) => match bytesOf rows with
      | some l => K (putA fr dst (.str ⟨l.toArray⟩)) S
      | none => False
    | none => False
  | .tsl st sz rows => match rowsOf S 1 (.tsl st sz rows) with
    | some (rows, _) => match bytesOf rows with
      | some l => K (putA fr dst (.str ⟨l.toArray⟩)) S
      | none => False
    | none => False
  | _ => P
theorem bsK_sl {b e off len sz : Nat} {dst : Option Tmp} {K : List AV → Store → Prop} {fr : List AV} {S : Store} {P : Prop} : bsK (.sl b e off len sz) dst K fr S P = match rowsOf S 1 (.sl b e off len sz) with
    | some (rows, _) => match bytesOf rows with
      | some l => K (putA fr dst (.str ⟨l.toArray⟩)) S
      | none => False
    | none => False := rfl
theorem wpK_bs {X : Ctx} {d : Bool} {dst : Option Tmp} {ty : TypeId} {pos : String} {after : Array Edge} {g : Option (Nat × Bool)} {K : List AV → Store → Prop} {fr : List AV} {S : Store} {s t el : TypeId} {x : Operand} {i j e : TyI}
    (hs : X.ty s = some j) (ht : X.ty t = some i) (he : X.ty el = some e) (hj : j.desc = .slice el) (hi : i.desc = .str) (hd : e.desc = .int .u8) :
    wpK X d ⟨dst, .convert s t x, ty, pos, after, g⟩ dst K fr S = bsK (evalA fr x) dst K fr S (wp1 X d ⟨dst, .convert s t x, ty, pos, after, g⟩ (fun v S' => K (putA fr dst v) S') fr S) := by
  obtain ⟨a1, b1, c1, e1, f1⟩ := i
  obtain ⟨a2, b2, c2, e2, f2⟩ := j
  obtain ⟨a3, b3, c3, e3, f3⟩ := e
  simp only at hj hi hd; subst hj hi hd
  have go : ∀ y, evalA fr x = y → convA X s t y = none → (∀ st, y ≠ .str st) → wpK X d ⟨dst, .convert s t x, ty, pos, after, g⟩ dst K fr S = match rowsOf S 1 y with
      | some (rows, _) => match bytesOf rows with
        | some l => K (putA fr dst (.str ⟨l.toArray⟩)) S
        | none => False
      | none => False := by
    intro y hy hc hn
    subst hy
    have hp : popA X fr ⟨dst, .convert s t x, ty, pos, after, g⟩ = none := by simp only [popA, hc]
    rw [wpK_qop (match rowsOf S 1 (evalA fr x) with | some (rows, _) => (bytesOf rows).map fun l => (.str ⟨l.toArray⟩, []) | none => none) hp (by
      simp only [qopA, hs, ht, he]
      cases rowsOf S 1 (evalA fr x) <;> rfl) rfl rfl rfl]
    cases rowsOf S 1 (evalA fr x) with
    | none => simp only [pairK]
    | some rp =>
      obtain ⟨rows, pr⟩ := rp
      simp only
      cases bytesOf rows with
      | none => simp only [Option.map_none, pairK]
      | some l => simp only [Option.map_some, pairK_some, List.append_nil]
  unfold bsK
  split
  · rename_i y1 b e off len sz hy; rw [go _ hy (by simp [convA, hs, ht]) (by simp)]
  · rename_i y1 st sz rows hy; rw [go _ hy (by simp [convA, hs, ht]) (by simp)]
  · unfold wpK; rfl
theorem bytesOf_nil : bytesOf [] = some [] := rfl
theorem bytesOf_cons {n : Int} {rest : List (List AV)} : bytesOf ([.int .u8 n] :: rest) = (bytesOf rest).map (UInt8.ofNat n.toNat :: ·) := rfl
theorem wI {n : Nat} (h : n < 9223372036854775808) : IntKind.wrap .i64 (n : Int) = n := wrap_small (by omega) (by omega)
theorem wB {n : Nat} (h : n < 256) : IntKind.wrap .u8 (n : Int) = n := by
  simp [IntKind.wrap, IntKind.min, IntKind.max, IntKind.signed, IntKind.bits]
  omega
theorem wIB {n : Nat} (h : n < 256) : IntKind.wrap .i64 (n : Int) = n := wI (by omega)
theorem tdivn (a b : Nat) : Int.tdiv (a : Int) (b : Int) = ((a / b : Nat) : Int) := rfl
theorem tmodn (a b : Nat) : Int.tmod (a : Int) (b : Int) = ((a % b : Nat) : Int) := rfl
end Go.Eng

/- Names and persons. -/
namespace Go.Eng
open Go.Proofs
set_option linter.unusedSimpArgs false
set_option linter.unusedVariables false
attribute [local irreducible] wpC wpO wp1 EvV EvR wpL
attribute [local go_sem] ty3 ty4 ty5 ty9 ty48 beq_iff_eq beq_eq_false_iff_ne Int.natCast_inj Bool.not_eq_false' op1_go wpK_box wpK_alloc wpK_load wpK_store wpK_binOp wpK_unOp wpK_fieldAddr wpK_field wpK_build wpK_indexAddr wpK_slice wpK_len wpK_extract wpK_nilCheck wpK_pick wpK_makeFunc wpK_call wpK_callT wpK_max wpK_min wpK_assignT wpK_moveT wpK_assignB wpK_moveB wpK_assignI wpK_moveI wpK_assignA wpK_moveA callK_fn snapL_nil snapL_cons snap_int snap_bool snap_str snap_tsl snap_agg snap_fn snap_flat adopt_int adopt_bool adopt_str adopt_agg adopt_osl adopt_tsl adopt_tup op1_guard grdK_bool grdK_undef condK_bool someK_some pairK_some nilK_ptr nilK_tptr boxK storeK evalA_tmp evalA_int evalA_bool evalA_agg evalA_fn evalA_nil ofC_int ofC_bool getA_zero getA_succ cells_int cells_agg cells_bool cells_sl cells_tsl cell_int cell_bool cell_str cell_sl cell_esl cell_tsl cell_ptr cell_tptr cell_fn cell_nils cell_nilf List.all_cons List.all_nil Bool.and_true Bool.and_self Bool.true_and putA_some putA_none List.set_cons_zero List.set_cons_succ List.length_cons List.length_nil List.nil_append List.cons_append stabL AV.stab fieldAddrA fieldA List.getElem?_cons_zero List.getElem?_cons_succ Nat.zero_add loadA rowOf Nat.le_refl and_self true_and and_true partA binA unA intBin eqBin eqCells eqCell Option.bind_some decide_true decide_false decide_eq_true_eq ite_not Bool.not_eq_true' decide_eq_false_iff_not Bool.false_eq_true Option.map_some Option.map_none Bool.not_true Bool.not_false buildA fillA patch List.take List.drop List.map_cons List.map_nil extK List.getD_cons_zero List.getD_cons_succ minmaxA minmaxGo adoptZ_false adoptZ_true freeze_int freeze_bool freeze_str freeze_flat freeze_agg freeze_osl freeze_tsl freeze_tup frz1_bool frz1_int frz1_str frz1_agg frz1_osl frz1_tsl bne Bool.false_and Bool.and_false ne_eq not_true_eq_false not_false_eq_true List.append_nil
set_option maxHeartbeats 4000000

theorem toList_loop (s : ByteArray) : ∀ (k i : Nat) (r : List UInt8), s.size ≤ i + k → ByteArray.toList.loop s i r = r.reverse ++ s.data.toList.drop i := by
  intro k
  induction k with
  | zero =>
    intro i r h
    unfold ByteArray.toList.loop
    rw [if_neg (by omega), List.drop_eq_nil_of_le (by simpa using h), List.append_nil]
  | succ k ih =>
    intro i r h
    unfold ByteArray.toList.loop
    split
    · rename_i hi
      rw [ih _ _ (by omega), List.reverse_cons, List.append_assoc]
      have hi' : i < s.data.toList.length := by simpa using hi
      rw [List.drop_eq_getElem_cons hi']
      simp [ByteArray.get!, hi]
    · rw [List.drop_eq_nil_of_le (by simp; omega), List.append_nil]
theorem toList_data (s : ByteArray) : s.toList = s.data.toList := by
  unfold ByteArray.toList
  rw [toList_loop s s.size 0 [] (by omega)]; simp

def bytesR (l : List UInt8) : List (List AV) := l.map fun c => [.int .u8 (c.toNat : Int)]
def sbK (v : AV) (dst : Option Tmp) (K : List AV → Store → Prop) (fr : List AV) (S : Store) (P : Prop) : Prop :=
  match v with
  | .str s => if s.size ≤ 140737488355328 then K (putA fr dst (.tsl true 1 (bytesR s.data.toList))) S else False
  | _ => P
theorem sbK_str {s : ByteArray} {dst : Option Tmp} {K : List AV → Store → Prop} {fr : List AV} {S : Store} {P : Prop} (h : s.size ≤ 140737488355328) : sbK (.str s) dst K fr S P = K (putA fr dst (.tsl true 1 (bytesR s.data.toList))) S := if_pos h
theorem wpK_sb {X : Ctx} {d : Bool} {dst : Option Tmp} {ty : TypeId} {pos : String} {after : Array Edge} {g : Option (Nat × Bool)} {K : List AV → Store → Prop} {fr : List AV} {S : Store} {s t el : TypeId} {x : Operand} {i j e : TyI}
    (hs : X.ty s = some j) (ht : X.ty t = some i) (he : X.ty el = some e) (hj : j.desc = .str) (hi : i.desc = .slice el) (hd : e.desc = .int .u8) :
    wpK X d ⟨dst, .convert s t x, ty, pos, after, g⟩ dst K fr S = sbK (evalA fr x) dst K fr S (wp1 X d ⟨dst, .convert s t x, ty, pos, after, g⟩ (fun v S' => K (putA fr dst v) S') fr S) := by
  obtain ⟨a1, b1, c1, e1, f1⟩ := i
  obtain ⟨a2, b2, c2, e2, f2⟩ := j
  obtain ⟨a3, b3, c3, e3, f3⟩ := e
  simp only at hj hi hd; subst hj hi hd
  unfold sbK
  split
  · rename_i v hv
    have hp : popA X fr ⟨dst, .convert s t x, ty, pos, after, g⟩ = none := by simp only [popA, convA, hs, ht, hv]
    rw [wpK_qop (if v.size ≤ 140737488355328 then some (.tsl true 1 (bytesR v.data.toList), []) else none) hp (by simp only [qopA, hs, ht, hv, he, toList_data]; rfl) rfl rfl rfl]
    by_cases h : v.size ≤ 140737488355328
    · simp only [if_pos h, pairK_some, List.append_nil]
    · simp only [if_neg h, pairK]
  · unfold wpK; rfl
theorem str_get {s : ByteArray} {pre post : List UInt8} {c : UInt8} (h : s.data.toList = pre ++ c :: post) : s[pre.length]? = some c := by
  have hl : pre.length < s.size := by
    have := congrArg List.length h
    simp at this; omega
  rw [getElem?_pos s pre.length hl]
  have : s.data.toList[pre.length]? = some c := by rw [h]; simp
  have e : s[pre.length] = s.data[pre.length]'(by simpa using hl) := rfl
  rw [e]
  simpa [hl] using this
theorem str_len {s : ByteArray} {l : List UInt8} (h : s.data.toList = l) : s.size = l.length := by rw [← h]; simp
theorem index_str {X : Ctx} {t : TypeId} {a c : Nat} {b : Bool} {d : List AV} {s : ByteArray} {n : Nat} {x : UInt8} {k : IntKind} (ht : X.ty t = some ⟨a, b, c, d, .str⟩) (h : s[n]? = some x) : indexA X t (.str s) (.int k n) = some (.int .u8 (x.toNat : Int)) := by
  simp [indexA, ht, h]

theorem bytesR_len (l : List UInt8) : (bytesR l).length = l.length := by simp [bytesR]

/-- What a name may hold. -/
def lowC (c : UInt8) : Bool := decide (97 ≤ (c.toNat : Int)) && decide ((c.toNat : Int) ≤ 122)
def nameC (c : UInt8) : Bool := lowC c || (decide (48 ≤ (c.toNat : Int)) && decide ((c.toNat : Int) ≤ 57)) || decide ((c.toNat : Int) = 45) || decide ((c.toNat : Int) = 95)
def nameL : List UInt8 → Bool
  | [] => false
  | c :: l => decide (l.length + 1 ≤ 32) && lowC c && l.all nameC

def nmC : List UInt8 → Bool
  | [] => true
  | c :: l => lowC c && l.all nameC
theorem nmC_snoc (l : List UInt8) (x : UInt8) : nmC (l ++ [x]) = (nmC l && if l = [] then lowC x else nameC x) := by
  cases l with
  | nil => simp [nmC]
  | cons c l => simp [nmC, Bool.and_assoc]
theorem nmC_app (l m : List UInt8) (h : nmC l = false) : nmC (l ++ m) = false := by
  cases l with
  | nil => simp [nmC] at h
  | cons c l =>
    simp only [nmC, List.cons_append, List.all_append] at h ⊢
    rw [← Bool.and_assoc, h, Bool.false_and]
theorem nameL_ok (l : List UInt8) : nameL l = (nmC l && (decide (1 ≤ l.length) && decide (l.length ≤ 32))) := by
  cases l with
  | nil => rfl
  | cons c l => simp only [nameL, nmC, List.length_cons]; cases lowC c <;> cases l.all nameC <;> simp

theorem nameM (s : ByteArray) (hs : s.size ≤ 1048576) : EvV CX 12 [.str s] (· = .bool (nameL s.data.toList)) := by
  obtain ⟨l, hl⟩ : ∃ l, s.data.toList = l := ⟨_, rfl⟩
  have hlen := str_len hl
  rw [hl]
  cases l with
  | nil =>
    have h0 : (s.toList == (⟨#[]⟩ : ByteArray).toList) = true := by rw [toList_data, toList_data, hl]; rfl
    clear hlen hl
    refine EvV.walk rfl fn12 rfl nt12 rfl ?_
    simp only [List.length_cons, List.length_nil, List.cons_append, List.nil_append, Nat.reduceAdd, Nat.reduceSub, List.replicate]
    repeat' (first | refine go1 ?_ | refine blockK_else rfl ?_ | (refine wpC_cond fun A B hA hB => ?_; simp only [go_sem, reduceIte, Nat.reduceAdd, Nat.reduceEqDiff, Nat.reduceLT, Nat.reduceLeDiff, *, and_self, evalA_str, wpK_index, strBin, h0]; first | (refine hA.out ?_; clear hA hB A B) | (refine hB.out ?_; clear hA hB A B) | (refine iteI (fun h => hA.out ?_) (fun h => hB.out ?_) <;> clear hA hB A B) | (refine iteI (fun h => hB.out ?_) (fun h => hA.out ?_) <;> clear hA hB A B)) | (refine wpO_cons fun K hK => ?_; simp only [go_sem, reduceIte, Nat.reduceAdd, Nat.reduceEqDiff, Nat.reduceLT, Nat.reduceLeDiff, *, and_self, evalA_str, wpK_index, strBin, h0]; first | (refine hK.out _ _ ?_; clear hK K) | (refine iteI (fun h => hK.out _ _ ?_) (fun h => hK.out _ _ ?_) <;> clear hK K)))
    simp only [resultsR, resultsL, resultA, expK_int, expK_bool, expK_str, expK_agg, expK_own, expK_tsl, resK_some, go_sem, reduceIte, Nat.reduceAdd, Nat.reduceEqDiff, Nat.reduceLT, Nat.reduceLeDiff, and_self, ]
    rfl
  | cons c l =>
    have h0 : (s.toList == (⟨#[]⟩ : ByteArray).toList) = false := by rw [toList_data, toList_data, hl]; rfl
    have hsz : (s.size : Int) = ((l.length + 1 : Nat) : Int) := by rw [hlen]; rfl
    have i0 := index_str (X := CX) (k := .i64) ty9 (str_get (pre := []) hl)
    have z : ((List.length ([] : List UInt8) : Nat) : Int) = 0 := rfl
    rw [z] at i0
    by_cases h32 : l.length + 1 ≤ 32
    · have n32 : ¬ ((l.length + 1 : Nat) : Int) > 32 := by omega
      have n33 : ¬ 32 < ((l.length + 1 : Nat) : Int) := by omega
      clear hlen
      have hh : Hold (s.data.toList = c :: l) := ⟨hl⟩
      clear hl
      have hsz2 : s.size ≤ 140737488355328 := by omega
      by_cases hlo : lowC c = true
      · have lo1 : ¬ (c.toNat : Int) < 97 := by simp [lowC] at hlo; omega
        have lo2 : ¬ (122 : Int) < (c.toNat : Int) := by simp [lowC] at hlo; omega
        have hE : nameL (c :: l) = (c :: l).all nameC := by
          have e : nameC c = true := by rw [nameC, hlo]; rfl
          simp only [nameL, List.all_cons, e, hlo, Bool.and_true, Bool.true_and]
          simp [h32]
        have hl := hh.out
        clear hh
        refine EvV.walk rfl fn12 rfl nt12 rfl ?_
        simp only [List.length_cons, List.length_nil, List.cons_append, List.nil_append, Nat.reduceAdd, Nat.reduceSub, List.replicate]
        repeat' (first | refine go1 ?_ | refine blockK_else rfl ?_ | (refine wpC_cond fun A B hA hB => ?_; simp only [go_sem, reduceIte, Nat.reduceAdd, Nat.reduceEqDiff, Nat.reduceLT, Nat.reduceLeDiff, *, and_self, evalA_str, wpK_index, strBin, h0, lenK_str, hsz, i0, wpK_sb ty9 ty48 ty5 rfl rfl rfl, sbK_str hsz2, lenK_tsl, bytesR_len, lo1, lo2, hl]; first | (refine hA.out ?_; clear hA hB A B) | (refine hB.out ?_; clear hA hB A B) | (refine iteI (fun h => hA.out ?_) (fun h => hB.out ?_) <;> clear hA hB A B) | (refine iteI (fun h => hB.out ?_) (fun h => hA.out ?_) <;> clear hA hB A B)) | (refine wpO_cons fun K hK => ?_; simp only [go_sem, reduceIte, Nat.reduceAdd, Nat.reduceEqDiff, Nat.reduceLT, Nat.reduceLeDiff, *, and_self, evalA_str, wpK_index, strBin, h0, lenK_str, hsz, i0, wpK_sb ty9 ty48 ty5 rfl rfl rfl, sbK_str hsz2, lenK_tsl, bytesR_len, lo1, lo2, hl]; first | (refine hK.out _ _ ?_; clear hK K) | (refine iteI (fun h => hK.out _ _ ?_) (fun h => hK.out _ _ ?_) <;> clear hK K)))
        rw [hE]
        have hlen : (l.length + 1 : Nat) = (c :: l).length := rfl
        rw [hlen]
        clear hE hl i0 h0 hsz hlo lo1 lo2 n32 n33
        have hb : (c :: l).length ≤ 32 := h32
        clear hlen h32
        generalize c :: l = L at *
        have hv : SLs 1 (bytesR L) (.tsl true 1 (bytesR L)) := .rows true
        refine wpC_each [2, 4, 26, 27, 28, 29, 30, 31, 32, 33, 34, 35, 36, 37, 38, 39, 40, 41, 42, 43, 44, 45, 46, 47, 48, 49, 50, 51] 25 L (fun pre post => L.all nameC = post.all nameC) ?_ ?_ ?_ ?_
        · rfl
        · rfl
        · intro g G h2
          rw [h2]; simp only [garbA_cons, garbA_nil, setL_cons, setL_nil, List.set_cons_zero, List.set_cons_succ]
          repeat' (first | refine go1 ?_ | refine blockK_else rfl ?_ | (refine wpC_cond fun A B hA hB => ?_; simp only [go_sem, reduceIte, Nat.reduceAdd, Nat.reduceEqDiff, Nat.reduceLT, Nat.reduceLeDiff, *, and_self, ints_len, List.length_map, Int.lt_irrefl, List.nil_append]; first | (refine hA.out ?_; clear hA hB A B) | (refine hB.out ?_; clear hA hB A B) | (refine iteI (fun h => hA.out ?_) (fun h => hB.out ?_) <;> clear hA hB A B) | (refine iteI (fun h => hB.out ?_) (fun h => hA.out ?_) <;> clear hA hB A B)) | (refine wpO_cons fun K hK => ?_; simp only [go_sem, reduceIte, Nat.reduceAdd, Nat.reduceEqDiff, Nat.reduceLT, Nat.reduceLeDiff, *, and_self, ints_len, List.length_map, Int.lt_irrefl, List.nil_append]; first | (refine hK.out _ _ ?_; clear hK K) | (refine iteI (fun h => hK.out _ _ ?_) (fun h => hK.out _ _ ?_) <;> clear hK K)))
          simp only [resultsR, resultsL, resultA, expK_int, expK_bool, expK_str, expK_agg, expK_own, expK_tsl, resK_some, go_sem, reduceIte, Nat.reduceAdd, Nat.reduceEqDiff, Nat.reduceLT, Nat.reduceLeDiff, and_self, List.all_nil]
        · intro g G pre x post h1 h2
          rw [h2]; subst h1; simp only [garbA_cons, garbA_nil, setL_cons, setL_nil, List.set_cons_zero, List.set_cons_succ]
          have i1 := idx_sls hv (X := CX) ty48 ty5 rfl (map_mid (fun c : UInt8 => [AV.int .u8 (c.toNat : Int)]) pre x post) (k := .i64)
          have w1 := wrap_succ (n := pre.length) (by simp at hb; omega)
          repeat' (first | refine go1 ?_ | refine blockK_else rfl ?_ | (refine wpC_cond fun A B hA hB => ?_; simp only [go_sem, reduceIte, Nat.reduceAdd, Nat.reduceEqDiff, Nat.reduceLT, Nat.reduceLeDiff, *, and_self, getElem?_len, getElem?_lenAdd, set_len, set_lenAdd, len_mid, ints_len, List.length_map, lt_mid, List.nil_append, i1, w1]; first | (refine hA.out ?_; clear hA hB A B) | (refine hB.out ?_; clear hA hB A B) | (refine iteI (fun h => hA.out ?_) (fun h => hB.out ?_) <;> clear hA hB A B) | (refine iteI (fun h => hB.out ?_) (fun h => hA.out ?_) <;> clear hA hB A B)) | (refine wpO_cons fun K hK => ?_; simp only [go_sem, reduceIte, Nat.reduceAdd, Nat.reduceEqDiff, Nat.reduceLT, Nat.reduceLeDiff, *, and_self, getElem?_len, getElem?_lenAdd, set_len, set_lenAdd, len_mid, ints_len, List.length_map, lt_mid, List.nil_append, i1, w1]; first | (refine hK.out _ _ ?_; clear hK K) | (refine iteI (fun h => hK.out _ _ ?_) (fun h => hK.out _ _ ?_) <;> clear hK K)))
          all_goals first
            | (refine each_next rfl ?_ ?_ ?_
               · have e : nameC x = true := by simp [nameC, lowC]; omega
                 rw [List.all_cons, e, Bool.true_and]
               · ((try simp only [eraseA_cons, eraseA_nil, setL_cons, setL_nil, List.set_cons_zero, List.set_cons_succ]); all_goals (first | rfl | (simp only [len_snoc, ints_len, List.length_map, ]; done) | (simp only [len_snoc, len_mid, ints_len, List.length_map, List.length_append, List.length_cons, List.length_nil, Nat.zero_add, ]; done) | (simp only [len_mid, len_snoc, ints_len, List.length_map, List.length_append, List.length_cons, List.length_nil, Nat.zero_add, ]; rfl)))
               · first | exact ⟨[], (List.append_nil _).symm⟩ | exact ⟨_, rfl⟩ | (simp only [List.append_assoc, List.cons_append, List.nil_append]; exact ⟨_, rfl⟩))
            | (simp only [resultsR, resultsL, resultA, expK_int, expK_bool, expK_str, expK_agg, expK_own, expK_tsl, resK_some, go_sem, reduceIte, Nat.reduceAdd, Nat.reduceEqDiff, Nat.reduceLT, Nat.reduceLeDiff, and_self, ]
               have e : nameC x = false := by simp [nameC, lowC]; omega
               simp only [List.all_cons, e, Bool.false_and])
      · have hl := hh.out
        clear hh
        have hE : nameL (c :: l) = false := by simp [nameL, hlo]
        rw [hE]
        have hlo' : (c.toNat : Int) < 97 ∨ 122 < (c.toNat : Int) := by simp [lowC] at hlo; omega
        clear hE hlo hl
        rcases hlo' with lo | lo
        · refine EvV.walk rfl fn12 rfl nt12 rfl ?_
          simp only [List.length_cons, List.length_nil, List.cons_append, List.nil_append, Nat.reduceAdd, Nat.reduceSub, List.replicate]
          repeat' (first | refine go1 ?_ | refine blockK_else rfl ?_ | (refine wpC_cond fun A B hA hB => ?_; simp only [go_sem, reduceIte, Nat.reduceAdd, Nat.reduceEqDiff, Nat.reduceLT, Nat.reduceLeDiff, *, and_self, evalA_str, wpK_index, strBin, h0, lenK_str, hsz, i0]; first | (refine hA.out ?_; clear hA hB A B) | (refine hB.out ?_; clear hA hB A B) | (refine iteI (fun h => hA.out ?_) (fun h => hB.out ?_) <;> clear hA hB A B) | (refine iteI (fun h => hB.out ?_) (fun h => hA.out ?_) <;> clear hA hB A B)) | (refine wpO_cons fun K hK => ?_; simp only [go_sem, reduceIte, Nat.reduceAdd, Nat.reduceEqDiff, Nat.reduceLT, Nat.reduceLeDiff, *, and_self, evalA_str, wpK_index, strBin, h0, lenK_str, hsz, i0]; first | (refine hK.out _ _ ?_; clear hK K) | (refine iteI (fun h => hK.out _ _ ?_) (fun h => hK.out _ _ ?_) <;> clear hK K)))
          simp only [resultsR, resultsL, resultA, expK_int, expK_bool, expK_str, expK_agg, expK_own, expK_tsl, resK_some, go_sem, reduceIte, Nat.reduceAdd, Nat.reduceEqDiff, Nat.reduceLT, Nat.reduceLeDiff, and_self, ]
        · have lo1 : ¬ (c.toNat : Int) < 97 := by omega
          refine EvV.walk rfl fn12 rfl nt12 rfl ?_
          simp only [List.length_cons, List.length_nil, List.cons_append, List.nil_append, Nat.reduceAdd, Nat.reduceSub, List.replicate]
          repeat' (first | refine go1 ?_ | refine blockK_else rfl ?_ | (refine wpC_cond fun A B hA hB => ?_; simp only [go_sem, reduceIte, Nat.reduceAdd, Nat.reduceEqDiff, Nat.reduceLT, Nat.reduceLeDiff, *, and_self, evalA_str, wpK_index, strBin, h0, lenK_str, hsz, i0]; first | (refine hA.out ?_; clear hA hB A B) | (refine hB.out ?_; clear hA hB A B) | (refine iteI (fun h => hA.out ?_) (fun h => hB.out ?_) <;> clear hA hB A B) | (refine iteI (fun h => hB.out ?_) (fun h => hA.out ?_) <;> clear hA hB A B)) | (refine wpO_cons fun K hK => ?_; simp only [go_sem, reduceIte, Nat.reduceAdd, Nat.reduceEqDiff, Nat.reduceLT, Nat.reduceLeDiff, *, and_self, evalA_str, wpK_index, strBin, h0, lenK_str, hsz, i0]; first | (refine hK.out _ _ ?_; clear hK K) | (refine iteI (fun h => hK.out _ _ ?_) (fun h => hK.out _ _ ?_) <;> clear hK K)))
          simp only [resultsR, resultsL, resultA, expK_int, expK_bool, expK_str, expK_agg, expK_own, expK_tsl, resK_some, go_sem, reduceIte, Nat.reduceAdd, Nat.reduceEqDiff, Nat.reduceLT, Nat.reduceLeDiff, and_self, ]
    · have n32 : 32 < ((l.length + 1 : Nat) : Int) := by omega
      have hE : nameL (c :: l) = false := by simp [nameL, h32]
      rw [hE]
      clear hE hl hlen h32
      refine EvV.walk rfl fn12 rfl nt12 rfl ?_
      simp only [List.length_cons, List.length_nil, List.cons_append, List.nil_append, Nat.reduceAdd, Nat.reduceSub, List.replicate]
      repeat' (first | refine go1 ?_ | refine blockK_else rfl ?_ | (refine wpC_cond fun A B hA hB => ?_; simp only [go_sem, reduceIte, Nat.reduceAdd, Nat.reduceEqDiff, Nat.reduceLT, Nat.reduceLeDiff, *, and_self, evalA_str, wpK_index, strBin, h0, lenK_str, hsz, i0]; first | (refine hA.out ?_; clear hA hB A B) | (refine hB.out ?_; clear hA hB A B) | (refine iteI (fun h => hA.out ?_) (fun h => hB.out ?_) <;> clear hA hB A B) | (refine iteI (fun h => hB.out ?_) (fun h => hA.out ?_) <;> clear hA hB A B)) | (refine wpO_cons fun K hK => ?_; simp only [go_sem, reduceIte, Nat.reduceAdd, Nat.reduceEqDiff, Nat.reduceLT, Nat.reduceLeDiff, *, and_self, evalA_str, wpK_index, strBin, h0, lenK_str, hsz, i0]; first | (refine hK.out _ _ ?_; clear hK K) | (refine iteI (fun h => hK.out _ _ ?_) (fun h => hK.out _ _ ?_) <;> clear hK K)))
      simp only [resultsR, resultsL, resultA, expK_int, expK_bool, expK_str, expK_agg, expK_own, expK_tsl, resK_some, go_sem, reduceIte, Nat.reduceAdd, Nat.reduceEqDiff, Nat.reduceLT, Nat.reduceLeDiff, and_self, ]

theorem nameR (s : ByteArray) (hs : s.size ≤ 1048576) : EvV CX 13 [.str s] (· = .bool (nameL s.data.toList)) := by
  obtain ⟨l, hl⟩ : ∃ l, s.data.toList = l := ⟨_, rfl⟩
  have hlen := str_len hl
  rw [hl]
  have hsz : (s.size : Int) = (l.length : Int) := by rw [hlen]
  refine EvV.walk rfl fn13 rfl nt13 rfl ?_
  simp only [List.length_cons, List.length_nil, List.cons_append, List.nil_append, Nat.reduceAdd, Nat.reduceSub, List.replicate]
  repeat' (first | refine go1 ?_ | refine blockK_else rfl ?_ | (refine wpC_cond fun A B hA hB => ?_; simp only [go_sem, reduceIte, Nat.reduceAdd, Nat.reduceEqDiff, Nat.reduceLT, Nat.reduceLeDiff, *, and_self, ]; first | (refine hA.out ?_; clear hA hB A B) | (refine hB.out ?_; clear hA hB A B) | (refine iteI (fun h => hA.out ?_) (fun h => hB.out ?_) <;> clear hA hB A B) | (refine iteI (fun h => hB.out ?_) (fun h => hA.out ?_) <;> clear hA hB A B)) | (refine wpO_cons fun K hK => ?_; simp only [go_sem, reduceIte, Nat.reduceAdd, Nat.reduceEqDiff, Nat.reduceLT, Nat.reduceLeDiff, *, and_self, ]; first | (refine hK.out _ _ ?_; clear hK K) | (refine iteI (fun h => hK.out _ _ ?_) (fun h => hK.out _ _ ?_) <;> clear hK K)))
  refine wpC_each [2, 4, 5, 6, 7, 8, 9, 10, 11, 12, 13, 14, 15, 16, 17, 18, 19, 20, 21, 22, 23, 24, 25, 26, 27, 28, 29, 30, 31, 32, 33, 34, 35, 36, 37, 38, 39, 40, 41, 42, 43, 44, 45, 46, 47, 48, 49, 50] 3 l (fun pre _ => nmC pre = true) ?_ ?_ ?_ ?_
  · rfl
  · rfl
  · intro g G h2
    simp only [garbA_cons, garbA_nil, setL_cons, setL_nil, List.set_cons_zero, List.set_cons_succ]
    rw [nameL_ok, h2, Bool.true_and]
    repeat' (first | refine go1 ?_ | refine blockK_else rfl ?_ | (refine wpC_cond fun A B hA hB => ?_; simp only [go_sem, reduceIte, Nat.reduceAdd, Nat.reduceEqDiff, Nat.reduceLT, Nat.reduceLeDiff, *, and_self, ints_len, List.length_map, Int.lt_irrefl, List.nil_append, lenK_str, hsz]; first | (refine hA.out ?_; clear hA hB A B) | (refine hB.out ?_; clear hA hB A B) | (refine iteI (fun h => hA.out ?_) (fun h => hB.out ?_) <;> clear hA hB A B) | (refine iteI (fun h => hB.out ?_) (fun h => hA.out ?_) <;> clear hA hB A B)) | (refine wpO_cons fun K hK => ?_; simp only [go_sem, reduceIte, Nat.reduceAdd, Nat.reduceEqDiff, Nat.reduceLT, Nat.reduceLeDiff, *, and_self, ints_len, List.length_map, Int.lt_irrefl, List.nil_append, lenK_str, hsz]; first | (refine hK.out _ _ ?_; clear hK K) | (refine iteI (fun h => hK.out _ _ ?_) (fun h => hK.out _ _ ?_) <;> clear hK K)))
    · simp only [resultsR, resultsL, resultA, expK_int, expK_bool, expK_str, expK_agg, expK_own, expK_tsl, resK_some, go_sem, reduceIte, Nat.reduceAdd, Nat.reduceEqDiff, Nat.reduceLT, Nat.reduceLeDiff, and_self, ]
      have : 1 ≤ l.length := by omega
      simp [this]
      omega
    · simp only [resultsR, resultsL, resultA, expK_int, expK_bool, expK_str, expK_agg, expK_own, expK_tsl, resK_some, go_sem, reduceIte, Nat.reduceAdd, Nat.reduceEqDiff, Nat.reduceLT, Nat.reduceLeDiff, and_self, ]
      have : ¬ 1 ≤ l.length := by omega
      simp [this]
  · intro g G pre x post h1 h2
    simp only [garbA_cons, garbA_nil, setL_cons, setL_nil, List.set_cons_zero, List.set_cons_succ]
    have i0 := index_str (X := CX) (k := .i64) ty9 (str_get (hl.trans h1))
    have lt1 : (pre.length : Int) < (l.length : Int) := by rw [h1]; simp; omega
    have w1 := wrap_succ (n := pre.length) (by omega)
    have hh : Hold (s.data.toList = l) := ⟨hl⟩
    have hh1 : Hold (l = pre ++ x :: post) := ⟨h1⟩
    have hh2 : Hold (nmC pre = true) := ⟨h2⟩
    clear hl h1 h2
    repeat' (first | refine go1 ?_ | refine blockK_else rfl ?_ | (refine wpC_cond fun A B hA hB => ?_; simp only [go_sem, reduceIte, Nat.reduceAdd, Nat.reduceEqDiff, Nat.reduceLT, Nat.reduceLeDiff, *, and_self, wpK_index, i0, lenK_str, hsz, lt1, w1]; first | (refine hA.out ?_; clear hA hB A B) | (refine hB.out ?_; clear hA hB A B) | (refine iteI (fun h => hA.out ?_) (fun h => hB.out ?_) <;> clear hA hB A B) | (refine iteI (fun h => hB.out ?_) (fun h => hA.out ?_) <;> clear hA hB A B)) | (refine wpO_cons fun K hK => ?_; simp only [go_sem, reduceIte, Nat.reduceAdd, Nat.reduceEqDiff, Nat.reduceLT, Nat.reduceLeDiff, *, and_self, wpK_index, i0, lenK_str, hsz, lt1, w1]; first | (refine hK.out _ _ ?_; clear hK K) | (refine iteI (fun h => hK.out _ _ ?_) (fun h => hK.out _ _ ?_) <;> clear hK K)))
    all_goals first
      | (refine each_next hh1.out ?_ ?_ ?_
         · rw [nmC_snoc, hh2.out, Bool.true_and]
           by_cases hp : pre = []
           · have : pre.length = 0 := by rw [hp]; rfl
             rw [if_pos hp]; simp [lowC]; omega
           · have : pre.length ≠ 0 := fun e => hp (List.eq_nil_of_length_eq_zero e)
             rw [if_neg hp]; simp [nameC, lowC]; omega
         · ((try simp only [eraseA_cons, eraseA_nil, setL_cons, setL_nil, List.set_cons_zero, List.set_cons_succ]); all_goals (first | rfl | (simp only [len_snoc, ints_len, List.length_map, ]; done) | (simp only [len_snoc, len_mid, ints_len, List.length_map, List.length_append, List.length_cons, List.length_nil, Nat.zero_add, ]; done) | (simp only [len_mid, len_snoc, ints_len, List.length_map, List.length_append, List.length_cons, List.length_nil, Nat.zero_add, ]; rfl)))
         · first | exact ⟨[], (List.append_nil _).symm⟩ | exact ⟨_, rfl⟩ | (simp only [List.append_assoc, List.cons_append, List.nil_append]; exact ⟨_, rfl⟩))
      | (simp only [resultsR, resultsL, resultA, expK_int, expK_bool, expK_str, expK_agg, expK_own, expK_tsl, resK_some, go_sem, reduceIte, Nat.reduceAdd, Nat.reduceEqDiff, Nat.reduceLT, Nat.reduceLeDiff, and_self, ]
         have e : nmC (pre ++ [x]) = false := by
           rw [nmC_snoc, hh2.out, Bool.true_and]
           by_cases hp : pre = []
           · have : pre.length = 0 := by rw [hp]; rfl
             rw [if_pos hp]; simp [lowC]; omega
           · have : pre.length ≠ 0 := fun e => hp (List.eq_nil_of_length_eq_zero e)
             rw [if_neg hp]; simp [nameC, lowC]; omega
         have e2 := nmC_app _ post e
         rw [nameL_ok, hh1.out, show pre ++ x :: post = (pre ++ [x]) ++ post by simp, e2, Bool.false_and])

/- The reference's scalars: encoded, first, Points. -/
open Go.Proofs
attribute [local go_sem] List.replicate Nat.one_mul Nat.reduceMul Nat.zero_mul bslA fz59 fz60 fz61 fz62 rowsFill
set_option maxHeartbeats 4000000

theorem scalE (p : Nat) : EvV CX 56 [.int .i64 p] (· = .bool (scal p)) := by
  have h0 : (0 : Int) ≤ (p : Int) := by omega
  have e1 : ((p : Int) ≤ 1114111) ↔ (p ≤ 1114111) := by omega
  have e2 : ((p : Int) < 55296) ↔ (p < 55296) := by omega
  have e3 : ((57343 : Int) < (p : Int)) ↔ (57343 < p) := by omega
  by_cases h1 : p ≤ 1114111 <;> by_cases h2 : p < 55296 <;> by_cases h3 : 57343 < p
  all_goals
    refine EvV.walk rfl fn56 rfl nt56 rfl ?_
    simp only [List.length_cons, List.length_nil, List.cons_append, List.nil_append, Nat.reduceAdd, Nat.reduceSub, List.replicate]
    repeat' (first | refine go1 ?_ | refine blockK_else rfl ?_ | (refine wpC_cond fun A B hA hB => ?_; simp only [go_sem, reduceIte, Nat.reduceAdd, Nat.reduceEqDiff, Nat.reduceLT, Nat.reduceLeDiff, *, and_self, ]; first | (refine hA.out ?_; clear hA hB A B) | (refine hB.out ?_; clear hA hB A B) | (refine iteI (fun h => hA.out ?_) (fun h => hB.out ?_) <;> clear hA hB A B) | (refine iteI (fun h => hB.out ?_) (fun h => hA.out ?_) <;> clear hA hB A B)) | (refine wpO_cons fun K hK => ?_; simp only [go_sem, reduceIte, Nat.reduceAdd, Nat.reduceEqDiff, Nat.reduceLT, Nat.reduceLeDiff, *, and_self, ]; first | (refine hK.out _ _ ?_; clear hK K) | (refine iteI (fun h => hK.out _ _ ?_) (fun h => hK.out _ _ ?_) <;> clear hK K)))
    simp only [resultsR, resultsL, resultA, expK_int, expK_bool, expK_str, expK_agg, expK_own, expK_tsl, resK_some, go_sem, reduceIte, Nat.reduceAdd, Nat.reduceEqDiff, Nat.reduceLT, Nat.reduceLeDiff, and_self, ]
    simp [scal, h1, h2, h3]

theorem encUE (p : Nat) (hp : p ≤ 1114111) : EvV CX 57 [.int .i64 p] (· = .str ⟨(encU p).toArray⟩) := by
  have z1 : ¬ (64 : Int) = 0 := by omega
  have z2 : ¬ (4096 : Int) = 0 := by omega
  have z3 : ¬ (262144 : Int) = 0 := by omega
  have d1 : Int.tdiv (p : Int) 64 = ((p / 64 : Nat) : Int) := rfl
  have d2 : Int.tdiv (p : Int) 4096 = ((p / 4096 : Nat) : Int) := rfl
  have d3 : Int.tdiv (p : Int) 262144 = ((p / 262144 : Nat) : Int) := rfl
  have m1 : Int.tmod (p : Int) 64 = ((p % 64 : Nat) : Int) := rfl
  have m2 : Int.tmod ((p / 64 : Nat) : Int) 64 = ((p / 64 % 64 : Nat) : Int) := rfl
  have m3 : Int.tmod ((p / 4096 : Nat) : Int) 64 = ((p / 4096 % 64 : Nat) : Int) := rfl
  have w1 : IntKind.wrap .i64 ((p / 64 : Nat) : Int) = ((p / 64 : Nat) : Int) := wI (by omega)
  have w2 : IntKind.wrap .i64 ((p / 4096 : Nat) : Int) = ((p / 4096 : Nat) : Int) := wI (by omega)
  have w3 : IntKind.wrap .i64 ((p / 262144 : Nat) : Int) = ((p / 262144 : Nat) : Int) := wI (by omega)
  have a1 : IntKind.wrap .i64 ((128 : Int) + ((p % 64 : Nat) : Int)) = ((128 + p % 64 : Nat) : Int) := wI (n := 128 + p % 64) (by omega)
  have a2 : IntKind.wrap .i64 ((128 : Int) + ((p / 64 % 64 : Nat) : Int)) = ((128 + p / 64 % 64 : Nat) : Int) := wI (n := 128 + p / 64 % 64) (by omega)
  have a3 : IntKind.wrap .i64 ((128 : Int) + ((p / 4096 % 64 : Nat) : Int)) = ((128 + p / 4096 % 64 : Nat) : Int) := wI (n := 128 + p / 4096 % 64) (by omega)
  have b1 : IntKind.wrap .u8 ((128 + p % 64 : Nat) : Int) = ((128 + p % 64 : Nat) : Int) := wB (by omega)
  have b2 : IntKind.wrap .u8 ((128 + p / 64 % 64 : Nat) : Int) = ((128 + p / 64 % 64 : Nat) : Int) := wB (by omega)
  have b3 : IntKind.wrap .u8 ((128 + p / 4096 % 64 : Nat) : Int) = ((128 + p / 4096 % 64 : Nat) : Int) := wB (by omega)
  by_cases h1 : (p : Int) < 128
  · have b0 : IntKind.wrap .u8 (p : Int) = (p : Int) := wB (by omega)
    refine EvV.walk rfl fn57 rfl nt57 rfl ?_
    simp only [List.length_cons, List.length_nil, List.cons_append, List.nil_append, Nat.reduceAdd, Nat.reduceSub, List.replicate]
    repeat' (first | refine go1 ?_ | refine blockK_else rfl ?_ | (refine wpC_cond fun A B hA hB => ?_; simp only [go_sem, reduceIte, Nat.reduceAdd, Nat.reduceEqDiff, Nat.reduceLT, Nat.reduceLeDiff, *, cvtK_int, wpK_buildSlice ty48 rfl, wpK_cvt ty3 ty5 rfl, b0, wpK_assignS, wpK_moveS, evalA_str, wpK_bs ty48 ty9 ty5 rfl rfl rfl, bsK_sl, rowsOf_sl, bytesOf_cons, bytesOf_nil, Option.map_some, Int.toNat_natCast, snap_sl, rowsOf_sl, ints_len, ints_take, List.take_length, Nat.zero_le, Nat.zero_add, Bool.true_or, List.getElem?_cons_succ]; first | (refine hA.out ?_; clear hA hB A B) | (refine hB.out ?_; clear hA hB A B) | (refine iteI (fun h => hA.out ?_) (fun h => hB.out ?_) <;> clear hA hB A B) | (refine iteI (fun h => hB.out ?_) (fun h => hA.out ?_) <;> clear hA hB A B)) | (refine wpO_cons fun K hK => ?_; simp only [go_sem, reduceIte, Nat.reduceAdd, Nat.reduceEqDiff, Nat.reduceLT, Nat.reduceLeDiff, *, cvtK_int, wpK_buildSlice ty48 rfl, wpK_cvt ty3 ty5 rfl, b0, wpK_assignS, wpK_moveS, evalA_str, wpK_bs ty48 ty9 ty5 rfl rfl rfl, bsK_sl, rowsOf_sl, bytesOf_cons, bytesOf_nil, Option.map_some, Int.toNat_natCast, snap_sl, rowsOf_sl, ints_len, ints_take, List.take_length, Nat.zero_le, Nat.zero_add, Bool.true_or, List.getElem?_cons_succ]; first | (refine hK.out _ _ ?_; clear hK K) | (refine iteI (fun h => hK.out _ _ ?_) (fun h => hK.out _ _ ?_) <;> clear hK K)))
    simp only [resultsR, resultsL, resultA, expK_int, expK_bool, expK_str, expK_agg, expK_own, expK_tsl, resK_some, go_sem, reduceIte, Nat.reduceAdd, Nat.reduceEqDiff, Nat.reduceLT, Nat.reduceLeDiff, cvtK_int, wpK_buildSlice ty48 rfl, wpK_cvt ty3 ty5 rfl, ]
    rw [encU, if_pos (by omega)]
  by_cases h2 : (p : Int) < 2048
  · have a0 : IntKind.wrap .i64 ((192 : Int) + ((p / 64 : Nat) : Int)) = ((192 + p / 64 : Nat) : Int) := wI (n := 192 + p / 64) (by omega)
    have b0 : IntKind.wrap .u8 ((192 + p / 64 : Nat) : Int) = ((192 + p / 64 : Nat) : Int) := wB (by omega)
    refine EvV.walk rfl fn57 rfl nt57 rfl ?_
    simp only [List.length_cons, List.length_nil, List.cons_append, List.nil_append, Nat.reduceAdd, Nat.reduceSub, List.replicate]
    repeat' (first | refine go1 ?_ | refine blockK_else rfl ?_ | (refine wpC_cond fun A B hA hB => ?_; simp only [go_sem, reduceIte, Nat.reduceAdd, Nat.reduceEqDiff, Nat.reduceLT, Nat.reduceLeDiff, *, cvtK_int, wpK_buildSlice ty48 rfl, wpK_cvt ty3 ty5 rfl, b0, a0, wpK_assignS, wpK_moveS, evalA_str, wpK_bs ty48 ty9 ty5 rfl rfl rfl, bsK_sl, rowsOf_sl, bytesOf_cons, bytesOf_nil, Option.map_some, Int.toNat_natCast, snap_sl, rowsOf_sl, ints_len, ints_take, List.take_length, Nat.zero_le, Nat.zero_add, Bool.true_or, List.getElem?_cons_succ]; first | (refine hA.out ?_; clear hA hB A B) | (refine hB.out ?_; clear hA hB A B) | (refine iteI (fun h => hA.out ?_) (fun h => hB.out ?_) <;> clear hA hB A B) | (refine iteI (fun h => hB.out ?_) (fun h => hA.out ?_) <;> clear hA hB A B)) | (refine wpO_cons fun K hK => ?_; simp only [go_sem, reduceIte, Nat.reduceAdd, Nat.reduceEqDiff, Nat.reduceLT, Nat.reduceLeDiff, *, cvtK_int, wpK_buildSlice ty48 rfl, wpK_cvt ty3 ty5 rfl, b0, a0, wpK_assignS, wpK_moveS, evalA_str, wpK_bs ty48 ty9 ty5 rfl rfl rfl, bsK_sl, rowsOf_sl, bytesOf_cons, bytesOf_nil, Option.map_some, Int.toNat_natCast, snap_sl, rowsOf_sl, ints_len, ints_take, List.take_length, Nat.zero_le, Nat.zero_add, Bool.true_or, List.getElem?_cons_succ]; first | (refine hK.out _ _ ?_; clear hK K) | (refine iteI (fun h => hK.out _ _ ?_) (fun h => hK.out _ _ ?_) <;> clear hK K)))
    simp only [resultsR, resultsL, resultA, expK_int, expK_bool, expK_str, expK_agg, expK_own, expK_tsl, resK_some, go_sem, reduceIte, Nat.reduceAdd, Nat.reduceEqDiff, Nat.reduceLT, Nat.reduceLeDiff, cvtK_int, wpK_buildSlice ty48 rfl, wpK_cvt ty3 ty5 rfl, ]
    rw [encU, if_neg (by omega), if_pos (by omega)]
  by_cases h3 : (p : Int) < 65536
  · have a0 : IntKind.wrap .i64 ((224 : Int) + ((p / 4096 : Nat) : Int)) = ((224 + p / 4096 : Nat) : Int) := wI (n := 224 + p / 4096) (by omega)
    have b0 : IntKind.wrap .u8 ((224 + p / 4096 : Nat) : Int) = ((224 + p / 4096 : Nat) : Int) := wB (by omega)
    refine EvV.walk rfl fn57 rfl nt57 rfl ?_
    simp only [List.length_cons, List.length_nil, List.cons_append, List.nil_append, Nat.reduceAdd, Nat.reduceSub, List.replicate]
    repeat' (first | refine go1 ?_ | refine blockK_else rfl ?_ | (refine wpC_cond fun A B hA hB => ?_; simp only [go_sem, reduceIte, Nat.reduceAdd, Nat.reduceEqDiff, Nat.reduceLT, Nat.reduceLeDiff, *, cvtK_int, wpK_buildSlice ty48 rfl, wpK_cvt ty3 ty5 rfl, b0, a0, wpK_assignS, wpK_moveS, evalA_str, wpK_bs ty48 ty9 ty5 rfl rfl rfl, bsK_sl, rowsOf_sl, bytesOf_cons, bytesOf_nil, Option.map_some, Int.toNat_natCast, snap_sl, rowsOf_sl, ints_len, ints_take, List.take_length, Nat.zero_le, Nat.zero_add, Bool.true_or, List.getElem?_cons_succ]; first | (refine hA.out ?_; clear hA hB A B) | (refine hB.out ?_; clear hA hB A B) | (refine iteI (fun h => hA.out ?_) (fun h => hB.out ?_) <;> clear hA hB A B) | (refine iteI (fun h => hB.out ?_) (fun h => hA.out ?_) <;> clear hA hB A B)) | (refine wpO_cons fun K hK => ?_; simp only [go_sem, reduceIte, Nat.reduceAdd, Nat.reduceEqDiff, Nat.reduceLT, Nat.reduceLeDiff, *, cvtK_int, wpK_buildSlice ty48 rfl, wpK_cvt ty3 ty5 rfl, b0, a0, wpK_assignS, wpK_moveS, evalA_str, wpK_bs ty48 ty9 ty5 rfl rfl rfl, bsK_sl, rowsOf_sl, bytesOf_cons, bytesOf_nil, Option.map_some, Int.toNat_natCast, snap_sl, rowsOf_sl, ints_len, ints_take, List.take_length, Nat.zero_le, Nat.zero_add, Bool.true_or, List.getElem?_cons_succ]; first | (refine hK.out _ _ ?_; clear hK K) | (refine iteI (fun h => hK.out _ _ ?_) (fun h => hK.out _ _ ?_) <;> clear hK K)))
    simp only [resultsR, resultsL, resultA, expK_int, expK_bool, expK_str, expK_agg, expK_own, expK_tsl, resK_some, go_sem, reduceIte, Nat.reduceAdd, Nat.reduceEqDiff, Nat.reduceLT, Nat.reduceLeDiff, cvtK_int, wpK_buildSlice ty48 rfl, wpK_cvt ty3 ty5 rfl, ]
    rw [encU, if_neg (by omega), if_neg (by omega), if_pos (by omega)]
  · have a0 : IntKind.wrap .i64 ((240 : Int) + ((p / 262144 : Nat) : Int)) = ((240 + p / 262144 : Nat) : Int) := wI (n := 240 + p / 262144) (by omega)
    have b0 : IntKind.wrap .u8 ((240 + p / 262144 : Nat) : Int) = ((240 + p / 262144 : Nat) : Int) := wB (by omega)
    refine EvV.walk rfl fn57 rfl nt57 rfl ?_
    simp only [List.length_cons, List.length_nil, List.cons_append, List.nil_append, Nat.reduceAdd, Nat.reduceSub, List.replicate]
    repeat' (first | refine go1 ?_ | refine blockK_else rfl ?_ | (refine wpC_cond fun A B hA hB => ?_; simp only [go_sem, reduceIte, Nat.reduceAdd, Nat.reduceEqDiff, Nat.reduceLT, Nat.reduceLeDiff, *, cvtK_int, wpK_buildSlice ty48 rfl, wpK_cvt ty3 ty5 rfl, b0, a0, wpK_assignS, wpK_moveS, evalA_str, wpK_bs ty48 ty9 ty5 rfl rfl rfl, bsK_sl, rowsOf_sl, bytesOf_cons, bytesOf_nil, Option.map_some, Int.toNat_natCast, snap_sl, rowsOf_sl, ints_len, ints_take, List.take_length, Nat.zero_le, Nat.zero_add, Bool.true_or, List.getElem?_cons_succ]; first | (refine hA.out ?_; clear hA hB A B) | (refine hB.out ?_; clear hA hB A B) | (refine iteI (fun h => hA.out ?_) (fun h => hB.out ?_) <;> clear hA hB A B) | (refine iteI (fun h => hB.out ?_) (fun h => hA.out ?_) <;> clear hA hB A B)) | (refine wpO_cons fun K hK => ?_; simp only [go_sem, reduceIte, Nat.reduceAdd, Nat.reduceEqDiff, Nat.reduceLT, Nat.reduceLeDiff, *, cvtK_int, wpK_buildSlice ty48 rfl, wpK_cvt ty3 ty5 rfl, b0, a0, wpK_assignS, wpK_moveS, evalA_str, wpK_bs ty48 ty9 ty5 rfl rfl rfl, bsK_sl, rowsOf_sl, bytesOf_cons, bytesOf_nil, Option.map_some, Int.toNat_natCast, snap_sl, rowsOf_sl, ints_len, ints_take, List.take_length, Nat.zero_le, Nat.zero_add, Bool.true_or, List.getElem?_cons_succ]; first | (refine hK.out _ _ ?_; clear hK K) | (refine iteI (fun h => hK.out _ _ ?_) (fun h => hK.out _ _ ?_) <;> clear hK K)))
    simp only [resultsR, resultsL, resultA, expK_int, expK_bool, expK_str, expK_agg, expK_own, expK_tsl, resK_some, go_sem, reduceIte, Nat.reduceAdd, Nat.reduceEqDiff, Nat.reduceLT, Nat.reduceLeDiff, cvtK_int, wpK_buildSlice ty48 rfl, wpK_cvt ty3 ty5 rfl, ]
    rw [encU, if_neg (by omega), if_neg (by omega), if_neg (by omega)]

def fstV : Option (Nat × Nat) → AV
  | some (p, n) => .tup [.int .i64 p, .int .i64 n]
  | none => .tup [.int .i64 (-1), .int .i64 0]

/- The reference's scalars: first, Points; labels. -/
open Go.Proofs
attribute [local go_sem] br56 br57 fz65
set_option maxHeartbeats 4000000

theorem slice_str {X : Ctx} {t : TypeId} {a c : Nat} {b : Bool} {d : List AV} {s : ByteArray} {k : IntKind} {i j : Nat} (ht : X.ty t = some ⟨a, b, c, d, .str⟩) (hij : i ≤ j) (hj : j ≤ s.size) : sliceA X t (.str s) (some (.int k i)) (some (.int k j)) none = some (.str (s.extract i j)) := by
  simp [sliceA, ht, boundA, hij, hj]
theorem extract_toList (s : ByteArray) (i j : Nat) : (s.extract i j).toList = (s.data.toList.drop i).take (j - i) := by
  rw [toList_data]
  have : (s.extract i j).data = s.data.extract i j := by simp
  rw [this, Array.toList_extract]
theorem acc_step {p : Nat} {tl : List UInt8} {k : Nat} {b : UInt8} (h : tl[k]? = some b) : accU p (tl.take (k + 1)) = accU p (tl.take k) * 64 + b.toNat % 64 := by
  rw [List.take_add_one, h]
  simp [accU, List.foldl_append]

theorem fstE (s : ByteArray) (hs : s.size ≤ 1048576) {pre tl : List UInt8} {c : UInt8} (hl : s.data.toList = pre ++ c :: tl) : EvV CX 48 [.str s, .int .i64 pre.length] (· = fstV (fstU (c :: tl))) := by
  have hlen := str_len hl
  simp only [List.length_append, List.length_cons] at hlen
  have i0 := index_str (X := CX) (k := .i64) ty9 (str_get hl)
  have hc := c.toNat_lt
  have w0 : IntKind.wrap .i64 (c.toNat : Int) = (c.toNat : Int) := wI (by omega)
  have k3 : ∀ (S : Store) (m : Int), expTop S (.int .i64 m) = some (.int .i64 m) := fun _ _ => rfl
  refine EvV.walk rfl fn48 rfl nt48 rfl ?_
  simp only [List.length_cons, List.length_nil, List.cons_append, List.nil_append, Nat.reduceAdd, Nat.reduceSub, List.replicate]
  repeat' (first | refine go1 ?_ | refine blockK_else rfl ?_ | (refine wpO_cons fun K hK => ?_; simp only [go_sem, reduceIte, Nat.reduceAdd, Nat.reduceEqDiff, Nat.reduceLT, Nat.reduceLeDiff, *, cvtK_int, wpK_cvt ty5 ty3 rfl, wpK_index, wpK_slice, wpK_assignS, wpK_moveS, evalA_str, lenK_str, i0, w0]; first | (refine hK.out _ _ ?_; clear hK K) | (refine iteI (fun h => hK.out _ _ ?_) (fun h => hK.out _ _ ?_) <;> clear hK K)))
  refine wpC_cutB [13, 14, 15, 16, 17, 18, 19, 20, 21, 22, 23, 24, 25, 26, 27] (fun _ : Unit => [(6, .int .i64 ((hdU c.toNat).1 : Int)), (7, .int .i64 ((hdU c.toNat).2 : Int))]) (fun _ H => H) (fun _ => True) ?_ ?_
  · by_cases h1 : (240 : Int) ≤ (c.toNat : Int)
    · have e : hdU c.toNat = (c.toNat - 240, 4) := by rw [hdU, if_pos (by omega)]
      have w1 : IntKind.wrap .i64 ((c.toNat : Int) - 240) = ((c.toNat - 240 : Nat) : Int) := by rw [wrap_small (by omega) (by omega)]; omega
      rw [e]
      clear e i0
      repeat' (first | refine go1 ?_ | refine blockK_else rfl ?_ | (refine wpC_cond fun A B hA hB => ?_; simp only [go_sem, reduceIte, Nat.reduceAdd, Nat.reduceEqDiff, Nat.reduceLT, Nat.reduceLeDiff, *, cvtK_int, wpK_cvt ty5 ty3 rfl, w1]; first | (refine hA.out ?_; clear hA hB A B) | (refine hB.out ?_; clear hA hB A B) | (refine iteI (fun h => hA.out ?_) (fun h => hB.out ?_) <;> clear hA hB A B) | (refine iteI (fun h => hB.out ?_) (fun h => hA.out ?_) <;> clear hA hB A B)) | (refine wpO_cons fun K hK => ?_; simp only [go_sem, reduceIte, Nat.reduceAdd, Nat.reduceEqDiff, Nat.reduceLT, Nat.reduceLeDiff, *, cvtK_int, wpK_cvt ty5 ty3 rfl, w1]; first | (refine hK.out _ _ ?_; clear hK K) | (refine iteI (fun h => hK.out _ _ ?_) (fun h => hK.out _ _ ?_) <;> clear hK K)))
      refine cut_next () trivial ?_ ⟨[], rfl⟩
      ((try simp only [eraseA_cons, eraseA_nil, setL_cons, setL_nil, List.set_cons_zero, List.set_cons_succ]); all_goals (first | rfl | (simp only [len_snoc, ints_len, List.length_map, ]; done) | (simp only [len_snoc, len_mid, ints_len, List.length_map, List.length_append, List.length_cons, List.length_nil, Nat.zero_add, ]; done) | (simp only [len_mid, len_snoc, ints_len, List.length_map, List.length_append, List.length_cons, List.length_nil, Nat.zero_add, ]; rfl)))
    by_cases h2 : (224 : Int) ≤ (c.toNat : Int)
    · have e : hdU c.toNat = (c.toNat - 224, 3) := by rw [hdU, if_neg (by omega), if_pos (by omega)]
      have w1 : IntKind.wrap .i64 ((c.toNat : Int) - 224) = ((c.toNat - 224 : Nat) : Int) := by rw [wrap_small (by omega) (by omega)]; omega
      rw [e]
      clear e i0
      repeat' (first | refine go1 ?_ | refine blockK_else rfl ?_ | (refine wpC_cond fun A B hA hB => ?_; simp only [go_sem, reduceIte, Nat.reduceAdd, Nat.reduceEqDiff, Nat.reduceLT, Nat.reduceLeDiff, *, cvtK_int, wpK_cvt ty5 ty3 rfl, w1]; first | (refine hA.out ?_; clear hA hB A B) | (refine hB.out ?_; clear hA hB A B) | (refine iteI (fun h => hA.out ?_) (fun h => hB.out ?_) <;> clear hA hB A B) | (refine iteI (fun h => hB.out ?_) (fun h => hA.out ?_) <;> clear hA hB A B)) | (refine wpO_cons fun K hK => ?_; simp only [go_sem, reduceIte, Nat.reduceAdd, Nat.reduceEqDiff, Nat.reduceLT, Nat.reduceLeDiff, *, cvtK_int, wpK_cvt ty5 ty3 rfl, w1]; first | (refine hK.out _ _ ?_; clear hK K) | (refine iteI (fun h => hK.out _ _ ?_) (fun h => hK.out _ _ ?_) <;> clear hK K)))
      refine cut_next () trivial ?_ ⟨[], rfl⟩
      ((try simp only [eraseA_cons, eraseA_nil, setL_cons, setL_nil, List.set_cons_zero, List.set_cons_succ]); all_goals (first | rfl | (simp only [len_snoc, ints_len, List.length_map, ]; done) | (simp only [len_snoc, len_mid, ints_len, List.length_map, List.length_append, List.length_cons, List.length_nil, Nat.zero_add, ]; done) | (simp only [len_mid, len_snoc, ints_len, List.length_map, List.length_append, List.length_cons, List.length_nil, Nat.zero_add, ]; rfl)))
    by_cases h3 : (192 : Int) ≤ (c.toNat : Int)
    · have e : hdU c.toNat = (c.toNat - 192, 2) := by rw [hdU, if_neg (by omega), if_neg (by omega), if_pos (by omega)]
      have w1 : IntKind.wrap .i64 ((c.toNat : Int) - 192) = ((c.toNat - 192 : Nat) : Int) := by rw [wrap_small (by omega) (by omega)]; omega
      rw [e]
      clear e i0
      repeat' (first | refine go1 ?_ | refine blockK_else rfl ?_ | (refine wpC_cond fun A B hA hB => ?_; simp only [go_sem, reduceIte, Nat.reduceAdd, Nat.reduceEqDiff, Nat.reduceLT, Nat.reduceLeDiff, *, cvtK_int, wpK_cvt ty5 ty3 rfl, w1]; first | (refine hA.out ?_; clear hA hB A B) | (refine hB.out ?_; clear hA hB A B) | (refine iteI (fun h => hA.out ?_) (fun h => hB.out ?_) <;> clear hA hB A B) | (refine iteI (fun h => hB.out ?_) (fun h => hA.out ?_) <;> clear hA hB A B)) | (refine wpO_cons fun K hK => ?_; simp only [go_sem, reduceIte, Nat.reduceAdd, Nat.reduceEqDiff, Nat.reduceLT, Nat.reduceLeDiff, *, cvtK_int, wpK_cvt ty5 ty3 rfl, w1]; first | (refine hK.out _ _ ?_; clear hK K) | (refine iteI (fun h => hK.out _ _ ?_) (fun h => hK.out _ _ ?_) <;> clear hK K)))
      refine cut_next () trivial ?_ ⟨[], rfl⟩
      ((try simp only [eraseA_cons, eraseA_nil, setL_cons, setL_nil, List.set_cons_zero, List.set_cons_succ]); all_goals (first | rfl | (simp only [len_snoc, ints_len, List.length_map, ]; done) | (simp only [len_snoc, len_mid, ints_len, List.length_map, List.length_append, List.length_cons, List.length_nil, Nat.zero_add, ]; done) | (simp only [len_mid, len_snoc, ints_len, List.length_map, List.length_append, List.length_cons, List.length_nil, Nat.zero_add, ]; rfl)))
    · have e : hdU c.toNat = (c.toNat, 1) := by rw [hdU, if_neg (by omega), if_neg (by omega), if_neg (by omega)]
      rw [e]
      clear e i0
      repeat' (first | refine go1 ?_ | refine blockK_else rfl ?_ | (refine wpC_cond fun A B hA hB => ?_; simp only [go_sem, reduceIte, Nat.reduceAdd, Nat.reduceEqDiff, Nat.reduceLT, Nat.reduceLeDiff, *, cvtK_int, wpK_cvt ty5 ty3 rfl, ]; first | (refine hA.out ?_; clear hA hB A B) | (refine hB.out ?_; clear hA hB A B) | (refine iteI (fun h => hA.out ?_) (fun h => hB.out ?_) <;> clear hA hB A B) | (refine iteI (fun h => hB.out ?_) (fun h => hA.out ?_) <;> clear hA hB A B)) | (refine wpO_cons fun K hK => ?_; simp only [go_sem, reduceIte, Nat.reduceAdd, Nat.reduceEqDiff, Nat.reduceLT, Nat.reduceLeDiff, *, cvtK_int, wpK_cvt ty5 ty3 rfl, ]; first | (refine hK.out _ _ ?_; clear hK K) | (refine iteI (fun h => hK.out _ _ ?_) (fun h => hK.out _ _ ?_) <;> clear hK K)))
      refine cut_next () trivial ?_ ⟨[], rfl⟩
      ((try simp only [eraseA_cons, eraseA_nil, setL_cons, setL_nil, List.set_cons_zero, List.set_cons_succ]); all_goals (first | rfl | (simp only [len_snoc, ints_len, List.length_map, ]; done) | (simp only [len_snoc, len_mid, ints_len, List.length_map, List.length_append, List.length_cons, List.length_nil, Nat.zero_add, ]; done) | (simp only [len_mid, len_snoc, ints_len, List.length_map, List.length_append, List.length_cons, List.length_nil, Nat.zero_add, ]; rfl)))
  rintro _ g0 G0 _
  have hn := hdU_n c.toNat
  have hp0 := hdU_p (c := c.toNat) hc
  have hF : fstU (c :: tl) = if tl.length + 1 < (hdU c.toNat).2 then none else
    if scal (accU (hdU c.toNat).1 (tl.take ((hdU c.toNat).2 - 1))) = true ∧ encU (accU (hdU c.toNat).1 (tl.take ((hdU c.toNat).2 - 1))) = (c :: tl).take (hdU c.toNat).2 then some (accU (hdU c.toNat).1 (tl.take ((hdU c.toNat).2 - 1)), (hdU c.toNat).2) else none := rfl
  rw [hF]
  clear i0 hF w0
  generalize (hdU c.toNat).1 = p0 at *
  generalize (hdU c.toNat).2 = n at *
  have wa : IntKind.wrap .i64 ((pre.length : Int) + (n : Int)) = ((pre.length + n : Nat) : Int) := wI (n := pre.length + n) (by omega)
  have hsz : (s.size : Int) = ((pre.length + (tl.length + 1) : Nat) : Int) := by rw [hlen]
  simp only [garbA_cons, garbA_nil, setL_cons, setL_nil, List.set_cons_zero, List.set_cons_succ]
  by_cases ho : tl.length + 1 < n
  · have z : (((pre.length + (tl.length + 1) : Nat) : Int)) < ((pre.length + n : Nat) : Int) := by omega
    rw [if_pos ho]
    clear hlen ho
    repeat' (first | refine go1 ?_ | refine blockK_else rfl ?_ | (refine wpC_cond fun A B hA hB => ?_; simp only [go_sem, reduceIte, Nat.reduceAdd, Nat.reduceEqDiff, Nat.reduceLT, Nat.reduceLeDiff, *, cvtK_int, wpK_cvt ty5 ty3 rfl, wpK_index, wpK_slice, wpK_assignS, wpK_moveS, evalA_str, lenK_str, wa, hsz, z]; first | (refine hA.out ?_; clear hA hB A B) | (refine hB.out ?_; clear hA hB A B) | (refine iteI (fun h => hA.out ?_) (fun h => hB.out ?_) <;> clear hA hB A B) | (refine iteI (fun h => hB.out ?_) (fun h => hA.out ?_) <;> clear hA hB A B)) | (refine wpO_cons fun K hK => ?_; simp only [go_sem, reduceIte, Nat.reduceAdd, Nat.reduceEqDiff, Nat.reduceLT, Nat.reduceLeDiff, *, cvtK_int, wpK_cvt ty5 ty3 rfl, wpK_index, wpK_slice, wpK_assignS, wpK_moveS, evalA_str, lenK_str, wa, hsz, z]; first | (refine hK.out _ _ ?_; clear hK K) | (refine iteI (fun h => hK.out _ _ ?_) (fun h => hK.out _ _ ?_) <;> clear hK K)))
    simp only [resultsR, resultsL, resultA, resK_some, getA_zero, getA_succ, go_sem, reduceIte, Nat.reduceAdd, Nat.reduceEqDiff, Nat.reduceLT, Nat.reduceLeDiff, expK_tup]
    rw [if_pos (show idsOK _ = true from rfl)]
    simp only [expTops, k3, fstV]
  have z : ¬ (((pre.length + (tl.length + 1) : Nat) : Int)) < ((pre.length + n : Nat) : Int) := by omega
  have hon : n ≤ tl.length + 1 := by omega
  rw [if_neg ho]
  clear ho
  repeat' (first | refine go1 ?_ | refine blockK_else rfl ?_ | (refine wpO_cons fun K hK => ?_; simp only [go_sem, reduceIte, Nat.reduceAdd, Nat.reduceEqDiff, Nat.reduceLT, Nat.reduceLeDiff, *, cvtK_int, wpK_cvt ty5 ty3 rfl, wpK_index, wpK_slice, wpK_assignS, wpK_moveS, evalA_str, lenK_str, wa, hsz, z]; first | (refine hK.out _ _ ?_; clear hK K) | (refine iteI (fun h => hK.out _ _ ?_) (fun h => hK.out _ _ ?_) <;> clear hK K)))
  (refine wpC_cond fun A B hA hB => ?_; simp only [go_sem, reduceIte, Nat.reduceAdd, Nat.reduceEqDiff, Nat.reduceLT, Nat.reduceLeDiff, *, cvtK_int, wpK_cvt ty5 ty3 rfl, z]; first | (refine hA.out ?_; clear hA hB A B) | (refine hB.out ?_; clear hA hB A B))
  repeat' (first | refine go1 ?_ | refine blockK_else rfl ?_ | (refine wpO_cons fun K hK => ?_; simp only [go_sem, reduceIte, Nat.reduceAdd, Nat.reduceEqDiff, Nat.reduceLT, Nat.reduceLeDiff, *, cvtK_int, wpK_cvt ty5 ty3 rfl, ]; first | (refine hK.out _ _ ?_; clear hK K) | (refine iteI (fun h => hK.out _ _ ?_) (fun h => hK.out _ _ ?_) <;> clear hK K)))
  clear z
  refine wpC_loopF [34, 35, 36, 37, 38, 39, 40, 41, 42, 43, 44, 45, 46, 47, 48] (fun i : Nat => [(6, .int .i64 ((accU p0 (tl.take (i - 1)) : Nat) : Int)), (8, .int .i64 (i : Int))]) (fun _ H => H) (fun i => 1 ≤ i ∧ i ≤ n) (fun i => n - i) 1 ⟨Nat.le_refl _, hn.1⟩ ?_ ⟨_, rfl⟩ ?_
  · ((try simp only [eraseA_cons, eraseA_nil, setL_cons, setL_nil, List.set_cons_zero, List.set_cons_succ]); all_goals (first | rfl | (simp only [len_snoc, ints_len, List.length_map, ]; done) | (simp only [len_snoc, len_mid, ints_len, List.length_map, List.length_append, List.length_cons, List.length_nil, Nat.zero_add, ]; done) | (simp only [len_mid, len_snoc, ints_len, List.length_map, List.length_append, List.length_cons, List.length_nil, Nat.zero_add, ]; rfl)))
  rintro i g G ⟨h1, h2⟩
  simp only [garbA_cons, garbA_nil, setL_cons, setL_nil, List.set_cons_zero, List.set_cons_succ]
  have hacc := accU_lt (tl.take (i - 1)) p0
  have hlt : (tl.take (i - 1)).length ≤ 3 := by simp; omega
  have hpow : 64 ^ (tl.take (i - 1)).length ≤ 262144 := Nat.le_trans (Nat.pow_le_pow_right (by omega) hlt) (by decide)
  have hbnd : accU p0 (tl.take (i - 1)) < 67108864 := Nat.lt_of_lt_of_le hacc (Nat.le_trans (Nat.mul_le_mul (show p0 + 1 ≤ 256 by omega) hpow) (by decide))
  by_cases hi : i < n
  · have hk : i - 1 < tl.length := by omega
    obtain ⟨b, hb⟩ : ∃ b, tl[i - 1]? = some b := ⟨_, List.getElem?_eq_getElem hk⟩
    have hbl := b.toNat_lt
    have hget : s[pre.length + i]? = some b := by
      have e : s.data.toList = (pre ++ c :: tl.take (i - 1)) ++ b :: tl.drop i := by
        rw [hl]
        have : tl = tl.take (i - 1) ++ b :: tl.drop i := by
          have h3 := List.take_append_drop (i - 1) tl
          have h4 : tl.drop (i - 1) = b :: tl.drop i := by
            rw [List.drop_eq_getElem_cons hk]
            have : tl[i - 1] = b := by rw [List.getElem?_eq_getElem hk] at hb; injection hb
            rw [this, show i - 1 + 1 = i by omega]
          rw [h4] at h3; exact h3.symm
        simp only [List.append_assoc, List.cons_append]
        rw [← this]
      have e2 := str_get e
      have e3 : (pre ++ c :: tl.take (i - 1)).length = pre.length + i := by simp; omega
      rw [e3] at e2; exact e2
    have i1 := index_str (X := CX) (k := .i64) ty9 hget
    have lt1 : (i : Int) < (n : Int) := by omega
    have w1 : IntKind.wrap .i64 (((accU p0 (tl.take (i - 1)) : Nat) : Int) * 64) = ((accU p0 (tl.take (i - 1)) * 64 : Nat) : Int) := wI (n := accU p0 (tl.take (i - 1)) * 64) (by omega)
    have w2 : IntKind.wrap .i64 ((pre.length : Int) + (i : Int)) = ((pre.length + i : Nat) : Int) := wI (n := pre.length + i) (by omega)
    have w3 : IntKind.wrap .i64 (b.toNat : Int) = (b.toNat : Int) := wI (by omega)
    have m1 : Int.tmod (b.toNat : Int) 64 = ((b.toNat % 64 : Nat) : Int) := rfl
    have z4 : ¬ (64 : Int) = 0 := by omega
    have w4 : IntKind.wrap .i64 (((accU p0 (tl.take (i - 1)) * 64 : Nat) : Int) + ((b.toNat % 64 : Nat) : Int)) = ((accU p0 (tl.take (i - 1)) * 64 + b.toNat % 64 : Nat) : Int) := wI (n := accU p0 (tl.take (i - 1)) * 64 + b.toNat % 64) (by omega)
    have w5 := wrap_succ (n := i) (by omega)
    have ha := acc_step (p := p0) hb
    rw [show i - 1 + 1 = i by omega] at ha
    have hha : Hold (accU p0 (tl.take i) = accU p0 (tl.take (i - 1)) * 64 + b.toNat % 64) := ⟨ha⟩
    clear ha hb hget
    repeat' (first | refine go1 ?_ | refine blockK_else rfl ?_ | (refine wpC_cond fun A B hA hB => ?_; simp only [go_sem, reduceIte, Nat.reduceAdd, Nat.reduceEqDiff, Nat.reduceLT, Nat.reduceLeDiff, *, cvtK_int, wpK_cvt ty5 ty3 rfl, wpK_index, wpK_slice, wpK_assignS, wpK_moveS, evalA_str, lenK_str, i1, lt1, w1, w2, w3, w4, w5, m1, z4]; first | (refine hA.out ?_; clear hA hB A B) | (refine hB.out ?_; clear hA hB A B) | (refine iteI (fun h => hA.out ?_) (fun h => hB.out ?_) <;> clear hA hB A B) | (refine iteI (fun h => hB.out ?_) (fun h => hA.out ?_) <;> clear hA hB A B)) | (refine wpO_cons fun K hK => ?_; simp only [go_sem, reduceIte, Nat.reduceAdd, Nat.reduceEqDiff, Nat.reduceLT, Nat.reduceLeDiff, *, cvtK_int, wpK_cvt ty5 ty3 rfl, wpK_index, wpK_slice, wpK_assignS, wpK_moveS, evalA_str, lenK_str, i1, lt1, w1, w2, w3, w4, w5, m1, z4]; first | (refine hK.out _ _ ?_; clear hK K) | (refine iteI (fun h => hK.out _ _ ?_) (fun h => hK.out _ _ ?_) <;> clear hK K)))
    refine loopF_next (i + 1) (by omega) ⟨by omega, by omega⟩ ?_ ⟨_, rfl⟩
    ((try simp only [eraseA_cons, eraseA_nil, setL_cons, setL_nil, List.set_cons_zero, List.set_cons_succ]); all_goals (first | rfl | (simp only [len_snoc, ints_len, List.length_map, Nat.add_sub_cancel, hha.out]; done) | (simp only [len_snoc, len_mid, ints_len, List.length_map, List.length_append, List.length_cons, List.length_nil, Nat.zero_add, Nat.add_sub_cancel, hha.out]; done) | (simp only [len_mid, len_snoc, ints_len, List.length_map, List.length_append, List.length_cons, List.length_nil, Nat.zero_add, Nat.add_sub_cancel, hha.out]; rfl)))
  · have hin : i = n := by omega
    subst hin
    have lt1 : ¬ (i : Int) < (i : Int) := by omega
    generalize hP : accU p0 (tl.take (i - 1)) = p at *
    have qs := (scalE p).rw
    repeat' (first | refine go1 ?_ | refine blockK_else rfl ?_ | (refine wpO_cons fun K hK => ?_; simp only [go_sem, reduceIte, Nat.reduceAdd, Nat.reduceEqDiff, Nat.reduceLT, Nat.reduceLeDiff, *, cvtK_int, wpK_cvt ty5 ty3 rfl, lt1]; first | (refine hK.out _ _ ?_; clear hK K) | (refine iteI (fun h => hK.out _ _ ?_) (fun h => hK.out _ _ ?_) <;> clear hK K)))
    (refine wpC_cond fun A B hA hB => ?_; simp only [go_sem, reduceIte, Nat.reduceAdd, Nat.reduceEqDiff, Nat.reduceLT, Nat.reduceLeDiff, *, cvtK_int, wpK_cvt ty5 ty3 rfl, ]; first | (refine hA.out ?_; clear hA hB A B) | (refine hB.out ?_; clear hA hB A B))
    have hle : pre.length ≤ pre.length + i := by omega
    have hle2 : pre.length + i ≤ s.size := by omega
    have sl := slice_str (X := CX) (k := .i64) (s := s) ty9 hle hle2
    by_cases k1 : scal p = true
    · have hpm : p ≤ 1114111 := by simp [scal] at k1; omega
      have qe := (encUE p hpm).rw
      have hq : ((⟨(encU p).toArray⟩ : ByteArray).toList == (s.extract pre.length (pre.length + i)).toList) = decide (encU p = (c :: tl).take i) := by
        rw [extract_toList, toList_data, hl, List.drop_left, Nat.add_sub_cancel_left]
        rw [Bool.eq_iff_iff]; simp
      by_cases k2 : encU p = (c :: tl).take i
      · have hd : decide (encU p = (c :: tl).take i) = true := by simpa using k2
        rw [hd] at hq
        rw [if_pos ⟨k1, k2⟩]
        clear hd hle hle2 hbnd hacc hlt hpow k2
        repeat' (first | refine go1 ?_ | refine blockK_else rfl ?_ | (refine wpC_cond fun A B hA hB => ?_; simp only [go_sem, reduceIte, Nat.reduceAdd, Nat.reduceEqDiff, Nat.reduceLT, Nat.reduceLeDiff, *, cvtK_int, wpK_cvt ty5 ty3 rfl, wpK_index, wpK_slice, wpK_assignS, wpK_moveS, evalA_str, lenK_str, wa, qs, qe, k1, sl, strBin, hq]; first | (refine hA.out ?_; clear hA hB A B) | (refine hB.out ?_; clear hA hB A B) | (refine iteI (fun h => hA.out ?_) (fun h => hB.out ?_) <;> clear hA hB A B) | (refine iteI (fun h => hB.out ?_) (fun h => hA.out ?_) <;> clear hA hB A B)) | (refine wpO_cons fun K hK => ?_; simp only [go_sem, reduceIte, Nat.reduceAdd, Nat.reduceEqDiff, Nat.reduceLT, Nat.reduceLeDiff, *, cvtK_int, wpK_cvt ty5 ty3 rfl, wpK_index, wpK_slice, wpK_assignS, wpK_moveS, evalA_str, lenK_str, wa, qs, qe, k1, sl, strBin, hq]; first | (refine hK.out _ _ ?_; clear hK K) | (refine iteI (fun h => hK.out _ _ ?_) (fun h => hK.out _ _ ?_) <;> clear hK K)))
        simp only [resultsR, resultsL, resultA, resK_some, getA_zero, getA_succ, go_sem, reduceIte, Nat.reduceAdd, Nat.reduceEqDiff, Nat.reduceLT, Nat.reduceLeDiff, expK_tup]
        rw [if_pos (show idsOK _ = true from rfl)]
        simp only [expTops, k3, fstV]
      · have hd : decide (encU p = (c :: tl).take i) = false := by simpa using k2
        rw [hd] at hq
        rw [if_neg (fun h => k2 h.2)]
        clear hd hle hle2 hbnd hacc hlt hpow k2
        repeat' (first | refine go1 ?_ | refine blockK_else rfl ?_ | (refine wpC_cond fun A B hA hB => ?_; simp only [go_sem, reduceIte, Nat.reduceAdd, Nat.reduceEqDiff, Nat.reduceLT, Nat.reduceLeDiff, *, cvtK_int, wpK_cvt ty5 ty3 rfl, wpK_index, wpK_slice, wpK_assignS, wpK_moveS, evalA_str, lenK_str, wa, qs, qe, k1, sl, strBin, hq]; first | (refine hA.out ?_; clear hA hB A B) | (refine hB.out ?_; clear hA hB A B) | (refine iteI (fun h => hA.out ?_) (fun h => hB.out ?_) <;> clear hA hB A B) | (refine iteI (fun h => hB.out ?_) (fun h => hA.out ?_) <;> clear hA hB A B)) | (refine wpO_cons fun K hK => ?_; simp only [go_sem, reduceIte, Nat.reduceAdd, Nat.reduceEqDiff, Nat.reduceLT, Nat.reduceLeDiff, *, cvtK_int, wpK_cvt ty5 ty3 rfl, wpK_index, wpK_slice, wpK_assignS, wpK_moveS, evalA_str, lenK_str, wa, qs, qe, k1, sl, strBin, hq]; first | (refine hK.out _ _ ?_; clear hK K) | (refine iteI (fun h => hK.out _ _ ?_) (fun h => hK.out _ _ ?_) <;> clear hK K)))
        simp only [resultsR, resultsL, resultA, resK_some, getA_zero, getA_succ, go_sem, reduceIte, Nat.reduceAdd, Nat.reduceEqDiff, Nat.reduceLT, Nat.reduceLeDiff, expK_tup]
        rw [if_pos (show idsOK _ = true from rfl)]
        simp only [expTops, k3, fstV]
    · rw [if_neg (fun h => k1 h.1)]
      have k1 : scal p = false := by simpa using k1
      clear hle hle2 hbnd hacc hlt hpow
      repeat' (first | refine go1 ?_ | refine blockK_else rfl ?_ | (refine wpC_cond fun A B hA hB => ?_; simp only [go_sem, reduceIte, Nat.reduceAdd, Nat.reduceEqDiff, Nat.reduceLT, Nat.reduceLeDiff, *, cvtK_int, wpK_cvt ty5 ty3 rfl, wpK_index, wpK_slice, wpK_assignS, wpK_moveS, evalA_str, lenK_str, wa, qs, k1]; first | (refine hA.out ?_; clear hA hB A B) | (refine hB.out ?_; clear hA hB A B) | (refine iteI (fun h => hA.out ?_) (fun h => hB.out ?_) <;> clear hA hB A B) | (refine iteI (fun h => hB.out ?_) (fun h => hA.out ?_) <;> clear hA hB A B)) | (refine wpO_cons fun K hK => ?_; simp only [go_sem, reduceIte, Nat.reduceAdd, Nat.reduceEqDiff, Nat.reduceLT, Nat.reduceLeDiff, *, cvtK_int, wpK_cvt ty5 ty3 rfl, wpK_index, wpK_slice, wpK_assignS, wpK_moveS, evalA_str, lenK_str, wa, qs, k1]; first | (refine hK.out _ _ ?_; clear hK K) | (refine iteI (fun h => hK.out _ _ ?_) (fun h => hK.out _ _ ?_) <;> clear hK K)))
      simp only [resultsR, resultsL, resultA, resK_some, getA_zero, getA_succ, go_sem, reduceIte, Nat.reduceAdd, Nat.reduceEqDiff, Nat.reduceLT, Nat.reduceLeDiff, expK_tup]
      rw [if_pos (show idsOK _ = true from rfl)]
      simp only [expTops, k3, fstV]
end Go.Eng

/- Groups, as trees. -/
namespace Go.Eng
open Go.Proofs

/-! Groups. -/
structure Grp where
  id : Int
  name : ByteArray
  people : List Int
  subs : List Int
  pv : AV
  sv : AV
def encG (g : Grp) : List AV := [.int .i64 g.id, .str g.name, g.pv, g.sv]
structure Grp.ok (g : Grp) : Prop where
  pv : SLs 1 (ints g.people) g.pv
  sv : SLs 1 (ints g.subs) g.sv

end Go.Eng

/- Groups and persons: finding, membership. -/
namespace Go.Eng
open Go.Proofs
set_option linter.unusedSimpArgs false
set_option linter.unusedVariables false
attribute [local irreducible] wpC wpO wp1 EvV EvR wpL
attribute [local go_sem] ty3 ty4 ty33 br58 fz78 br50 fz55 beq_iff_eq beq_eq_false_iff_ne Int.natCast_inj Bool.not_eq_false' op1_go wpK_box wpK_alloc wpK_load wpK_store wpK_binOp wpK_unOp wpK_fieldAddr wpK_field wpK_build wpK_indexAddr wpK_slice wpK_len wpK_extract wpK_nilCheck wpK_pick wpK_makeFunc wpK_call wpK_callT wpK_max wpK_min wpK_assignT wpK_moveT wpK_assignB wpK_moveB wpK_assignI wpK_moveI wpK_assignA wpK_moveA callK_fn snapL_nil snapL_cons snap_int snap_bool snap_str snap_tsl snap_agg snap_fn snap_flat adopt_int adopt_bool adopt_str adopt_agg adopt_osl adopt_tsl adopt_tup op1_guard grdK_bool grdK_undef condK_bool someK_some pairK_some nilK_ptr nilK_tptr boxK storeK evalA_tmp evalA_int evalA_bool evalA_agg evalA_fn evalA_nil ofC_int ofC_bool getA_zero getA_succ cells_int cells_agg cells_bool cells_sl cells_tsl cell_int cell_bool cell_str cell_sl cell_esl cell_tsl cell_ptr cell_tptr cell_fn cell_nils cell_nilf List.all_cons List.all_nil Bool.and_true Bool.and_self Bool.true_and putA_some putA_none List.set_cons_zero List.set_cons_succ List.length_cons List.length_nil List.nil_append List.cons_append stabL AV.stab fieldAddrA fieldA List.getElem?_cons_zero List.getElem?_cons_succ Nat.zero_add loadA rowOf Nat.le_refl and_self true_and and_true partA binA unA intBin eqBin eqCells eqCell Option.bind_some decide_true decide_false decide_eq_true_eq ite_not Bool.not_eq_true' decide_eq_false_iff_not Bool.false_eq_true Option.map_some Option.map_none Bool.not_true Bool.not_false buildA fillA patch List.take List.drop List.map_cons List.map_nil extK List.getD_cons_zero List.getD_cons_succ minmaxA minmaxGo adoptZ_false adoptZ_true freeze_int freeze_bool freeze_str freeze_flat freeze_agg freeze_osl freeze_tsl freeze_tup frz1_bool frz1_int frz1_str frz1_agg frz1_osl frz1_tsl bne Bool.false_and Bool.and_false ne_eq not_true_eq_false not_false_eq_true List.append_nil

/-- Where a number stands first. -/
def idxOf (l : List Int) (n : Int) : Nat → Option Nat
  | k => match l with
    | [] => none
    | x :: l => if n = x then some k else idxOf l n (k + 1)
def codeOf : Option Nat → Int
  | some k => (k : Int)
  | none => -1

theorem idxOf_contains (l : List Int) (n : Int) : ∀ k, (idxOf l n k).isSome = l.contains n := by
  induction l with
  | nil => intro k; rfl
  | cons x l ih =>
    intro k
    unfold idxOf
    by_cases h : n = x
    · subst h; simp
    · simp only [h, if_false, ih, List.contains_cons]; simp [h]
theorem codeOf_pos (o : Option Nat) : decide (0 ≤ codeOf o) = o.isSome := by
  cases o with
  | none => rfl
  | some k => simp [codeOf]

theorem indexE (v : AV) (l : List Int) (n : Int) (hv : SLs 1 (ints l) v) (hl : l.length < 9223372036854775807) : EvV CX 58 [v, .int .i64 n] (· = .int .i64 (codeOf (idxOf l n 0))) := by
  refine EvV.walk rfl fn58 rfl nt58 rfl ?_
  simp only [List.length_cons, List.length_nil, List.cons_append, List.nil_append, Nat.reduceAdd, Nat.reduceSub, List.replicate]
  repeat' (first | refine go1 ?_ | refine blockK_else rfl ?_ | (refine wpC_cond fun A B hA hB => ?_; simp only [go_sem, reduceIte, Nat.reduceAdd, Nat.reduceEqDiff, Nat.reduceLT, Nat.reduceLeDiff, *, and_self, lenK_sls hv]; first | (refine hA.out ?_; clear hA hB A B) | (refine hB.out ?_; clear hA hB A B) | (refine iteI (fun h => hA.out ?_) (fun h => hB.out ?_) <;> clear hA hB A B) | (refine iteI (fun h => hB.out ?_) (fun h => hA.out ?_) <;> clear hA hB A B)) | (refine wpO_cons fun K hK => ?_; simp only [go_sem, reduceIte, Nat.reduceAdd, Nat.reduceEqDiff, Nat.reduceLT, Nat.reduceLeDiff, *, and_self, lenK_sls hv]; first | (refine hK.out _ _ ?_; clear hK K) | (refine iteI (fun h => hK.out _ _ ?_) (fun h => hK.out _ _ ?_) <;> clear hK K)))
  refine wpC_each [4, 5, 9, 10, 11, 12, 13, 14, 15, 16, 17, 18] 8 l (fun pre post => idxOf l n 0 = idxOf post n pre.length) ?_ ?_ ?_ ?_
  · rfl
  · rfl
  · intro g G h2
    rw [h2]; simp only [garbA_cons, garbA_nil, setL_cons, setL_nil, List.set_cons_zero, List.set_cons_succ]
    repeat' (first | refine go1 ?_ | refine blockK_else rfl ?_ | (refine wpC_cond fun A B hA hB => ?_; simp only [go_sem, reduceIte, Nat.reduceAdd, Nat.reduceEqDiff, Nat.reduceLT, Nat.reduceLeDiff, *, and_self, ints_len, List.length_map, Int.lt_irrefl, List.nil_append]; first | (refine hA.out ?_; clear hA hB A B) | (refine hB.out ?_; clear hA hB A B) | (refine iteI (fun h => hA.out ?_) (fun h => hB.out ?_) <;> clear hA hB A B) | (refine iteI (fun h => hB.out ?_) (fun h => hA.out ?_) <;> clear hA hB A B)) | (refine wpO_cons fun K hK => ?_; simp only [go_sem, reduceIte, Nat.reduceAdd, Nat.reduceEqDiff, Nat.reduceLT, Nat.reduceLeDiff, *, and_self, ints_len, List.length_map, Int.lt_irrefl, List.nil_append]; first | (refine hK.out _ _ ?_; clear hK K) | (refine iteI (fun h => hK.out _ _ ?_) (fun h => hK.out _ _ ?_) <;> clear hK K)))
    simp only [resultsR, resultsL, resultA, expK_int, expK_bool, expK_str, expK_agg, expK_own, expK_tsl, resK_some, go_sem, reduceIte, Nat.reduceAdd, Nat.reduceEqDiff, Nat.reduceLT, Nat.reduceLeDiff, and_self, ]
    rfl
  · intro g G pre x post h1 h2
    rw [h2]; subst h1; simp only [garbA_cons, garbA_nil, setL_cons, setL_nil, List.set_cons_zero, List.set_cons_succ]
    have i1 := idx_sls hv (X := CX) ty33 ty3 rfl (ints_mid pre x post) (k := .i64)
    have w1 := wrap_succ (n := pre.length) (by simp at hl; omega)
    by_cases hx : n = x
    · subst hx
      repeat' (first | refine go1 ?_ | refine blockK_else rfl ?_ | (refine wpC_cond fun A B hA hB => ?_; simp only [go_sem, reduceIte, Nat.reduceAdd, Nat.reduceEqDiff, Nat.reduceLT, Nat.reduceLeDiff, *, and_self, getElem?_len, getElem?_lenAdd, set_len, set_lenAdd, len_mid, ints_len, List.length_map, lt_mid, List.nil_append, i1, w1, beq_self_eq_true]; first | (refine hA.out ?_; clear hA hB A B) | (refine hB.out ?_; clear hA hB A B) | (refine iteI (fun h => hA.out ?_) (fun h => hB.out ?_) <;> clear hA hB A B) | (refine iteI (fun h => hB.out ?_) (fun h => hA.out ?_) <;> clear hA hB A B)) | (refine wpO_cons fun K hK => ?_; simp only [go_sem, reduceIte, Nat.reduceAdd, Nat.reduceEqDiff, Nat.reduceLT, Nat.reduceLeDiff, *, and_self, getElem?_len, getElem?_lenAdd, set_len, set_lenAdd, len_mid, ints_len, List.length_map, lt_mid, List.nil_append, i1, w1, beq_self_eq_true]; first | (refine hK.out _ _ ?_; clear hK K) | (refine iteI (fun h => hK.out _ _ ?_) (fun h => hK.out _ _ ?_) <;> clear hK K)))
      simp only [resultsR, resultsL, resultA, expK_int, expK_bool, expK_str, expK_agg, expK_own, expK_tsl, resK_some, go_sem, reduceIte, Nat.reduceAdd, Nat.reduceEqDiff, Nat.reduceLT, Nat.reduceLeDiff, and_self, ]
      simp [idxOf, codeOf]
    · have hx' : (n == x) = false := by simpa using hx
      have hh : Hold (¬ n = x) := ⟨hx⟩
      clear hx
      repeat' (first | refine go1 ?_ | refine blockK_else rfl ?_ | (refine wpC_cond fun A B hA hB => ?_; simp only [go_sem, reduceIte, Nat.reduceAdd, Nat.reduceEqDiff, Nat.reduceLT, Nat.reduceLeDiff, *, and_self, getElem?_len, getElem?_lenAdd, set_len, set_lenAdd, len_mid, ints_len, List.length_map, lt_mid, List.nil_append, i1, w1, hx']; first | (refine hA.out ?_; clear hA hB A B) | (refine hB.out ?_; clear hA hB A B) | (refine iteI (fun h => hA.out ?_) (fun h => hB.out ?_) <;> clear hA hB A B) | (refine iteI (fun h => hB.out ?_) (fun h => hA.out ?_) <;> clear hA hB A B)) | (refine wpO_cons fun K hK => ?_; simp only [go_sem, reduceIte, Nat.reduceAdd, Nat.reduceEqDiff, Nat.reduceLT, Nat.reduceLeDiff, *, and_self, getElem?_len, getElem?_lenAdd, set_len, set_lenAdd, len_mid, ints_len, List.length_map, lt_mid, List.nil_append, i1, w1, hx']; first | (refine hK.out _ _ ?_; clear hK K) | (refine iteI (fun h => hK.out _ _ ?_) (fun h => hK.out _ _ ?_) <;> clear hK K)))
      refine each_next rfl ?_ ?_ ?_
      · rw [idxOf, if_neg hh.out, len_snoc]
      · ((try simp only [eraseA_cons, eraseA_nil, setL_cons, setL_nil, List.set_cons_zero, List.set_cons_succ]); all_goals (first | rfl | (simp only [len_snoc, ints_len, List.length_map, ]; done) | (simp only [len_snoc, len_mid, ints_len, List.length_map, List.length_append, List.length_cons, List.length_nil, Nat.zero_add, ]; done) | (simp only [len_mid, len_snoc, ints_len, List.length_map, List.length_append, List.length_cons, List.length_nil, Nat.zero_add, ]; rfl)))
      · first | exact ⟨[], (List.append_nil _).symm⟩ | exact ⟨_, rfl⟩ | (simp only [List.append_assoc, List.cons_append, List.nil_append]; exact ⟨_, rfl⟩)

theorem containsE (v : AV) (l : List Int) (n : Int) (hv : SLs 1 (ints l) v) (hl : l.length < 9223372036854775807) : EvV CX 50 [v, .int .i64 n] (· = .bool (l.contains n)) := by
  have q := (indexE v l n hv hl).rw
  have e : decide (0 ≤ codeOf (idxOf l n 0)) = l.contains n := by rw [codeOf_pos, idxOf_contains]
  refine EvV.walk rfl fn50 rfl nt50 rfl ?_
  simp only [List.length_cons, List.length_nil, List.cons_append, List.nil_append, Nat.reduceAdd, Nat.reduceSub, List.replicate]
  repeat' (first | refine go1 ?_ | refine blockK_else rfl ?_ | (refine wpC_cond fun A B hA hB => ?_; simp only [go_sem, reduceIte, Nat.reduceAdd, Nat.reduceEqDiff, Nat.reduceLT, Nat.reduceLeDiff, *, and_self, hv.snap, q, e]; first | (refine hA.out ?_; clear hA hB A B) | (refine hB.out ?_; clear hA hB A B) | (refine iteI (fun h => hA.out ?_) (fun h => hB.out ?_) <;> clear hA hB A B) | (refine iteI (fun h => hB.out ?_) (fun h => hA.out ?_) <;> clear hA hB A B)) | (refine wpO_cons fun K hK => ?_; simp only [go_sem, reduceIte, Nat.reduceAdd, Nat.reduceEqDiff, Nat.reduceLT, Nat.reduceLeDiff, *, and_self, hv.snap, q, e]; first | (refine hK.out _ _ ?_; clear hK K) | (refine iteI (fun h => hK.out _ _ ?_) (fun h => hK.out _ _ ?_) <;> clear hK K)))
  simp only [resultsR, resultsL, resultA, expK_int, expK_bool, expK_str, expK_agg, expK_own, expK_tsl, resK_some, go_sem, reduceIte, Nat.reduceAdd, Nat.reduceEqDiff, Nat.reduceLT, Nat.reduceLeDiff, and_self, e]

theorem hasN (v : AV) (l : List Int) (n : Int) (hv : SLs 1 (ints l) v) (hl : l.length < 9223372036854775807) : EvV CX 41 [v, .int .i64 n] (· = .bool (l.contains n)) := by
  have q := (containsE v l n hv hl).rw
  refine EvV.walk rfl fn41 rfl nt41 rfl ?_
  simp only [List.length_cons, List.length_nil, List.cons_append, List.nil_append, Nat.reduceAdd, Nat.reduceSub, List.replicate]
  repeat' (first | refine go1 ?_ | refine blockK_else rfl ?_ | (refine wpC_cond fun A B hA hB => ?_; simp only [go_sem, reduceIte, Nat.reduceAdd, Nat.reduceEqDiff, Nat.reduceLT, Nat.reduceLeDiff, *, and_self, hv.snap, q]; first | (refine hA.out ?_; clear hA hB A B) | (refine hB.out ?_; clear hA hB A B) | (refine iteI (fun h => hA.out ?_) (fun h => hB.out ?_) <;> clear hA hB A B) | (refine iteI (fun h => hB.out ?_) (fun h => hA.out ?_) <;> clear hA hB A B)) | (refine wpO_cons fun K hK => ?_; simp only [go_sem, reduceIte, Nat.reduceAdd, Nat.reduceEqDiff, Nat.reduceLT, Nat.reduceLeDiff, *, and_self, hv.snap, q]; first | (refine hK.out _ _ ?_; clear hK K) | (refine iteI (fun h => hK.out _ _ ?_) (fun h => hK.out _ _ ?_) <;> clear hK K)))
  simp only [resultsR, resultsL, resultA, expK_int, expK_bool, expK_str, expK_agg, expK_own, expK_tsl, resK_some, go_sem, reduceIte, Nat.reduceAdd, Nat.reduceEqDiff, Nat.reduceLT, Nat.reduceLeDiff, and_self, ]

/- Persons; increasing lists as the code tests them. -/
open Go.Proofs
attribute [local go_sem] ty9 ty24 ty27 ty55 eq27 br35 br36 allocK fz49 fz77
set_option maxHeartbeats 4000000

structure Psn where
  id : Int
  name : ByteArray
  mem : Bool
def encP (p : Psn) : List AV := [.int .i64 p.id, .str p.name, .bool p.mem]

theorem person1E (p : Psn) (n : Int) (st : Bool) : EvV CX 36 [.agg (encP p), .tptr st [.int .i64 n] 0] (· = .bool (p.id == n)) := by
  refine EvV.walk rfl fn36 rfl nt36 rfl ?_
  simp only [List.length_cons, List.length_nil, List.cons_append, List.nil_append, Nat.reduceAdd, Nat.reduceSub, List.replicate]
  repeat' (first | refine go1 ?_ | refine blockK_else rfl ?_ | (refine wpC_cond fun A B hA hB => ?_; simp only [go_sem, reduceIte, Nat.reduceAdd, Nat.reduceEqDiff, Nat.reduceLT, Nat.reduceLeDiff, *, and_self, encP]; first | (refine hA.out ?_; clear hA hB A B) | (refine hB.out ?_; clear hA hB A B) | (refine iteI (fun h => hA.out ?_) (fun h => hB.out ?_) <;> clear hA hB A B) | (refine iteI (fun h => hB.out ?_) (fun h => hA.out ?_) <;> clear hA hB A B)) | (refine wpO_cons fun K hK => ?_; simp only [go_sem, reduceIte, Nat.reduceAdd, Nat.reduceEqDiff, Nat.reduceLT, Nat.reduceLeDiff, *, and_self, encP]; first | (refine hK.out _ _ ?_; clear hK K) | (refine iteI (fun h => hK.out _ _ ?_) (fun h => hK.out _ _ ?_) <;> clear hK K)))
  simp only [resultsR, resultsL, resultA, expK_int, expK_bool, expK_str, expK_agg, expK_own, expK_tsl, resK_some, go_sem, reduceIte, Nat.reduceAdd, Nat.reduceEqDiff, Nat.reduceLT, Nat.reduceLeDiff, and_self, ]

def pIdx (l : List Psn) (n : Int) : Nat → Option Nat
  | k => match l with
    | [] => none
    | g :: l => if g.id = n then some k else pIdx l n (k + 1)

theorem indexPE (v : AV) (ps : List Psn) (n : Int) (st : Bool) (hv : SLs 3 (ps.map encP) v) (hl : ps.length < 9223372036854775807) : EvV CX 35 [v, .fn 36 [.tptr st [.int .i64 n] 0]] (· = .int .i64 (codeOf (pIdx ps n 0))) := by
  have hs : ∀ S, snap S (.tptr st [.int .i64 n] 0) = some (.tptr st [.int .i64 n] 0) := fun S => by simp only [snap]
  have b1 : CX.byRef 36 = false := br36
  refine EvV.walk rfl fn35 rfl nt35 rfl ?_
  simp only [List.length_cons, List.length_nil, List.cons_append, List.nil_append, Nat.reduceAdd, Nat.reduceSub, List.replicate]
  repeat' (first | refine go1 ?_ | refine blockK_else rfl ?_ | (refine wpC_cond fun A B hA hB => ?_; simp only [go_sem, reduceIte, Nat.reduceAdd, Nat.reduceEqDiff, Nat.reduceLT, Nat.reduceLeDiff, *, and_self, lenK_sls hv]; first | (refine hA.out ?_; clear hA hB A B) | (refine hB.out ?_; clear hA hB A B) | (refine iteI (fun h => hA.out ?_) (fun h => hB.out ?_) <;> clear hA hB A B) | (refine iteI (fun h => hB.out ?_) (fun h => hA.out ?_) <;> clear hA hB A B)) | (refine wpO_cons fun K hK => ?_; simp only [go_sem, reduceIte, Nat.reduceAdd, Nat.reduceEqDiff, Nat.reduceLT, Nat.reduceLeDiff, *, and_self, lenK_sls hv]; first | (refine hK.out _ _ ?_; clear hK K) | (refine iteI (fun h => hK.out _ _ ?_) (fun h => hK.out _ _ ?_) <;> clear hK K)))
  refine wpC_each [4, 5, 9, 10, 11, 12, 13, 14, 15, 16, 17, 18] 8 ps (fun pre post => pIdx ps n 0 = pIdx post n pre.length) ?_ ?_ ?_ ?_
  · rfl
  · rfl
  · intro g G h2
    rw [h2]; simp only [garbA_cons, garbA_nil, setL_cons, setL_nil, List.set_cons_zero, List.set_cons_succ]
    repeat' (first | refine go1 ?_ | refine blockK_else rfl ?_ | (refine wpC_cond fun A B hA hB => ?_; simp only [go_sem, reduceIte, Nat.reduceAdd, Nat.reduceEqDiff, Nat.reduceLT, Nat.reduceLeDiff, *, and_self, ints_len, List.length_map, Int.lt_irrefl, List.nil_append]; first | (refine hA.out ?_; clear hA hB A B) | (refine hB.out ?_; clear hA hB A B) | (refine iteI (fun h => hA.out ?_) (fun h => hB.out ?_) <;> clear hA hB A B) | (refine iteI (fun h => hB.out ?_) (fun h => hA.out ?_) <;> clear hA hB A B)) | (refine wpO_cons fun K hK => ?_; simp only [go_sem, reduceIte, Nat.reduceAdd, Nat.reduceEqDiff, Nat.reduceLT, Nat.reduceLeDiff, *, and_self, ints_len, List.length_map, Int.lt_irrefl, List.nil_append]; first | (refine hK.out _ _ ?_; clear hK K) | (refine iteI (fun h => hK.out _ _ ?_) (fun h => hK.out _ _ ?_) <;> clear hK K)))
    simp only [resultsR, resultsL, resultA, expK_int, expK_bool, expK_str, expK_agg, expK_own, expK_tsl, resK_some, go_sem, reduceIte, Nat.reduceAdd, Nat.reduceEqDiff, Nat.reduceLT, Nat.reduceLeDiff, and_self, ]
    rfl
  · intro g G pre x post h1 h2
    rw [h2]; subst h1; simp only [garbA_cons, garbA_nil, setL_cons, setL_nil, List.set_cons_zero, List.set_cons_succ]
    have i1 := idx_sls hv (X := CX) ty24 ty27 rfl (map_mid encP pre x post) (k := .i64)
    have w1 := wrap_succ (n := pre.length) (by simp at hl; omega)
    have q := (person1E x n st).rw
    simp only [encP] at q
    by_cases hx : x.id = n
    · have hx' : (x.id == n) = true := by simpa using hx
      rw [hx'] at q
      have hh : Hold (x.id = n) := ⟨hx⟩
      clear hx
      repeat' (first | refine go1 ?_ | refine blockK_else rfl ?_ | (refine wpC_cond fun A B hA hB => ?_; simp only [go_sem, reduceIte, Nat.reduceAdd, Nat.reduceEqDiff, Nat.reduceLT, Nat.reduceLeDiff, *, and_self, getElem?_len, getElem?_lenAdd, set_len, set_lenAdd, len_mid, ints_len, List.length_map, lt_mid, List.nil_append, i1, w1, encP, snap_str, hs, q, b1]; first | (refine hA.out ?_; clear hA hB A B) | (refine hB.out ?_; clear hA hB A B) | (refine iteI (fun h => hA.out ?_) (fun h => hB.out ?_) <;> clear hA hB A B) | (refine iteI (fun h => hB.out ?_) (fun h => hA.out ?_) <;> clear hA hB A B)) | (refine wpO_cons fun K hK => ?_; simp only [go_sem, reduceIte, Nat.reduceAdd, Nat.reduceEqDiff, Nat.reduceLT, Nat.reduceLeDiff, *, and_self, getElem?_len, getElem?_lenAdd, set_len, set_lenAdd, len_mid, ints_len, List.length_map, lt_mid, List.nil_append, i1, w1, encP, snap_str, hs, q, b1]; first | (refine hK.out _ _ ?_; clear hK K) | (refine iteI (fun h => hK.out _ _ ?_) (fun h => hK.out _ _ ?_) <;> clear hK K)))
      simp only [resultsR, resultsL, resultA, expK_int, expK_bool, expK_str, expK_agg, expK_own, expK_tsl, resK_some, go_sem, reduceIte, Nat.reduceAdd, Nat.reduceEqDiff, Nat.reduceLT, Nat.reduceLeDiff, and_self, ]
      simp [pIdx, codeOf, hh.out]
    · have hx' : (x.id == n) = false := by simpa using hx
      rw [hx'] at q
      have hh : Hold (¬ x.id = n) := ⟨hx⟩
      clear hx
      repeat' (first | refine go1 ?_ | refine blockK_else rfl ?_ | (refine wpC_cond fun A B hA hB => ?_; simp only [go_sem, reduceIte, Nat.reduceAdd, Nat.reduceEqDiff, Nat.reduceLT, Nat.reduceLeDiff, *, and_self, getElem?_len, getElem?_lenAdd, set_len, set_lenAdd, len_mid, ints_len, List.length_map, lt_mid, List.nil_append, i1, w1, encP, snap_str, hs, q, b1]; first | (refine hA.out ?_; clear hA hB A B) | (refine hB.out ?_; clear hA hB A B) | (refine iteI (fun h => hA.out ?_) (fun h => hB.out ?_) <;> clear hA hB A B) | (refine iteI (fun h => hB.out ?_) (fun h => hA.out ?_) <;> clear hA hB A B)) | (refine wpO_cons fun K hK => ?_; simp only [go_sem, reduceIte, Nat.reduceAdd, Nat.reduceEqDiff, Nat.reduceLT, Nat.reduceLeDiff, *, and_self, getElem?_len, getElem?_lenAdd, set_len, set_lenAdd, len_mid, ints_len, List.length_map, lt_mid, List.nil_append, i1, w1, encP, snap_str, hs, q, b1]; first | (refine hK.out _ _ ?_; clear hK K) | (refine iteI (fun h => hK.out _ _ ?_) (fun h => hK.out _ _ ?_) <;> clear hK K)))
      refine each_next rfl ?_ ?_ ?_
      · rw [pIdx, if_neg hh.out, len_snoc]
      · ((try simp only [eraseA_cons, eraseA_nil, setL_cons, setL_nil, List.set_cons_zero, List.set_cons_succ]); all_goals (first | rfl | (simp only [len_snoc, ints_len, List.length_map, ]; done) | (simp only [len_snoc, len_mid, ints_len, List.length_map, List.length_append, List.length_cons, List.length_nil, Nat.zero_add, ]; done) | (simp only [len_mid, len_snoc, ints_len, List.length_map, List.length_append, List.length_cons, List.length_nil, Nat.zero_add, ]; rfl)))
      · first | exact ⟨[], (List.append_nil _).symm⟩ | exact ⟨_, rfl⟩ | (simp only [List.append_assoc, List.cons_append, List.nil_append]; exact ⟨_, rfl⟩)

def pFind (ps : List Psn) (n : Int) : Option Psn := ps.find? fun p => p.id == n
def noP : Psn := ⟨0, .empty, false⟩
theorem pIdx_find (ps : List Psn) (n : Int) : ∀ k, (pIdx ps n k = none ∧ pFind ps n = none) ∨ ∃ a g b, ps = a ++ g :: b ∧ pIdx ps n k = some (k + a.length) ∧ pFind ps n = some g := by
  induction ps with
  | nil => intro k; exact .inl ⟨rfl, rfl⟩
  | cons x gs ih =>
    intro k
    by_cases h : x.id = n
    · refine .inr ⟨[], x, gs, rfl, ?_, ?_⟩
      · rw [pIdx, if_pos h]; rfl
      · simp [pFind, h]
    · have e : pFind (x :: gs) n = pFind gs n := by simp [pFind, h]
      rw [pIdx, if_neg h, e]
      rcases ih (k + 1) with ⟨h1, h2⟩ | ⟨a, g, b, h1, h2, h3⟩
      · exact .inl ⟨h1, h2⟩
      · exact .inr ⟨x :: a, g, b, by rw [h1]; rfl, by rw [h2]; simp; omega, h3⟩
def psn (ps : List Psn) (n : Int) : Psn := (pFind ps n).getD noP
def isP (ps : List Psn) (n : Int) : Bool := (pFind ps n).isSome

theorem personE (v : AV) (ps : List Psn) (n : Int) (hv : SLs 3 (ps.map encP) v) (hl : ps.length < 9223372036854775807) : EvV CX 17 [v, .int .i64 n] (· = .tup [.agg (encP (psn ps n)), .bool (isP ps n)]) := by
  have q := (indexPE v ps n false hv hl).rw
  have hs : ∀ (C : Store), snap (.arr [[.int .i64 n]] 1 0 true :: C) (.ptr 0 1 1 0 0) = some (.tptr false [.int .i64 n] 0) := fun C => by
    simp [snap, rowOf, cleanL, AV.clean]
  have k3 : ∀ (S : Store) (m : Int), expCell S (.int .i64 m) = some (.int .i64 m) := fun _ _ => rfl
  have k4 : ∀ (S : Store) (m : ByteArray), expCell S (.str m) = some (.str m) := fun _ _ => rfl
  have k5 : ∀ (S : Store) (m : Bool), expTop S (.bool m) = some (.bool m) := fun _ _ => rfl
  have k6 : ∀ (S : Store) (m : Bool), expCell S (.bool m) = some (.bool m) := fun _ _ => rfl
  rcases pIdx_find ps n 0 with ⟨h1, h2⟩ | ⟨a, g, b, h1, h2, h3⟩
  · rw [h1] at q
    have z : (-1 : Int) < 0 := by omega
    have e : codeOf none = -1 := rfl
    rw [e] at q
    have e1 : psn ps n = noP := by simp [psn, h2]
    have e2 : isP ps n = false := by simp [isP, h2]
    rw [e1, e2]
    clear h1 h2 e1 e2
    refine EvV.walk rfl fn17 rfl nt17 rfl ?_
    simp only [List.length_cons, List.length_nil, List.cons_append, List.nil_append, Nat.reduceAdd, Nat.reduceSub, List.replicate]
    repeat' (first | refine go1 ?_ | refine blockK_else rfl ?_ | (refine wpC_cond fun A B hA hB => ?_; simp only [go_sem, reduceIte, Nat.reduceAdd, Nat.reduceEqDiff, Nat.reduceLT, Nat.reduceLeDiff, *, and_self, hv.snap, hs, q, List.getElem?_cons_succ]; first | (refine hA.out ?_; clear hA hB A B) | (refine hB.out ?_; clear hA hB A B) | (refine iteI (fun h => hA.out ?_) (fun h => hB.out ?_) <;> clear hA hB A B) | (refine iteI (fun h => hB.out ?_) (fun h => hA.out ?_) <;> clear hA hB A B)) | (refine wpO_cons fun K hK => ?_; simp only [go_sem, reduceIte, Nat.reduceAdd, Nat.reduceEqDiff, Nat.reduceLT, Nat.reduceLeDiff, *, and_self, hv.snap, hs, q, List.getElem?_cons_succ]; first | (refine hK.out _ _ ?_; clear hK K) | (refine iteI (fun h => hK.out _ _ ?_) (fun h => hK.out _ _ ?_) <;> clear hK K)))
    simp only [resultsR, resultsL, resultA, resK_some, getA_zero, getA_succ, go_sem, reduceIte, Nat.reduceAdd, Nat.reduceEqDiff, Nat.reduceLT, Nat.reduceLeDiff, and_self, List.getElem?_cons_succ, expK_tup]
    rw [if_pos (show idsOK _ = true from rfl)]
    simp only [expTops, expTop, expCells, k3, k4, k5, k6, encP, noP]
    simp [AV.stab]
  · rw [h2] at q
    have hal : a.length < ps.length := by rw [h1]; simp
    have z : ¬ ((a.length : Nat) : Int) < 0 := by omega
    have e : codeOf (some (0 + a.length)) = ((a.length : Nat) : Int) := by simp [codeOf]
    rw [e] at q
    have i1 := idx_sls hv (X := CX) ty24 ty27 rfl (n := a.length) (row := encP g) (k := .i64) (by rw [h1]; exact map_mid encP a g b)
    have e1 : psn ps n = g := by simp [psn, h3]
    have e2 : isP ps n = true := by simp [isP, h3]
    rw [e1, e2]
    clear h1 h2 h3 e1 e2
    refine EvV.walk rfl fn17 rfl nt17 rfl ?_
    simp only [List.length_cons, List.length_nil, List.cons_append, List.nil_append, Nat.reduceAdd, Nat.reduceSub, List.replicate]
    repeat' (first | refine go1 ?_ | refine blockK_else rfl ?_ | (refine wpC_cond fun A B hA hB => ?_; simp only [go_sem, reduceIte, Nat.reduceAdd, Nat.reduceEqDiff, Nat.reduceLT, Nat.reduceLeDiff, *, and_self, hv.snap, hs, q, List.getElem?_cons_succ, i1, encP]; first | (refine hA.out ?_; clear hA hB A B) | (refine hB.out ?_; clear hA hB A B) | (refine iteI (fun h => hA.out ?_) (fun h => hB.out ?_) <;> clear hA hB A B) | (refine iteI (fun h => hB.out ?_) (fun h => hA.out ?_) <;> clear hA hB A B)) | (refine wpO_cons fun K hK => ?_; simp only [go_sem, reduceIte, Nat.reduceAdd, Nat.reduceEqDiff, Nat.reduceLT, Nat.reduceLeDiff, *, and_self, hv.snap, hs, q, List.getElem?_cons_succ, i1, encP]; first | (refine hK.out _ _ ?_; clear hK K) | (refine iteI (fun h => hK.out _ _ ?_) (fun h => hK.out _ _ ?_) <;> clear hK K)))
    simp only [resultsR, resultsL, resultA, resK_some, getA_zero, getA_succ, go_sem, reduceIte, Nat.reduceAdd, Nat.reduceEqDiff, Nat.reduceLT, Nat.reduceLeDiff, and_self, List.getElem?_cons_succ, expK_tup]
    rw [if_pos (show idsOK _ = true from rfl)]
    simp only [expTops, expTop, expCells, k3, k4, k5, k6, encP]
    simp [AV.stab]

theorem personR (v : AV) (ps : List Psn) (n : Int) (hv : SLs 3 (ps.map encP) v) (hl : ps.length < 9223372036854775807) : EvV CX 18 [v, .int .i64 n] (· = .tup [.agg (encP (psn ps n)), .bool (isP ps n)]) := by
  have k3 : ∀ (S : Store) (m : Int), expCell S (.int .i64 m) = some (.int .i64 m) := fun _ _ => rfl
  have k4 : ∀ (S : Store) (m : ByteArray), expCell S (.str m) = some (.str m) := fun _ _ => rfl
  have k5 : ∀ (S : Store) (m : Bool), expTop S (.bool m) = some (.bool m) := fun _ _ => rfl
  have k6 : ∀ (S : Store) (m : Bool), expCell S (.bool m) = some (.bool m) := fun _ _ => rfl
  refine EvV.walk rfl fn18 rfl nt18 rfl ?_
  simp only [List.length_cons, List.length_nil, List.cons_append, List.nil_append, Nat.reduceAdd, Nat.reduceSub, List.replicate]
  repeat' (first | refine go1 ?_ | refine blockK_else rfl ?_ | (refine wpC_cond fun A B hA hB => ?_; simp only [go_sem, reduceIte, Nat.reduceAdd, Nat.reduceEqDiff, Nat.reduceLT, Nat.reduceLeDiff, *, and_self, lenK_sls hv]; first | (refine hA.out ?_; clear hA hB A B) | (refine hB.out ?_; clear hA hB A B) | (refine iteI (fun h => hA.out ?_) (fun h => hB.out ?_) <;> clear hA hB A B) | (refine iteI (fun h => hB.out ?_) (fun h => hA.out ?_) <;> clear hA hB A B)) | (refine wpO_cons fun K hK => ?_; simp only [go_sem, reduceIte, Nat.reduceAdd, Nat.reduceEqDiff, Nat.reduceLT, Nat.reduceLeDiff, *, and_self, lenK_sls hv]; first | (refine hK.out _ _ ?_; clear hK K) | (refine iteI (fun h => hK.out _ _ ?_) (fun h => hK.out _ _ ?_) <;> clear hK K)))
  refine wpC_each [5, 6, 10, 11, 12, 13, 14, 15, 16, 17, 18, 19, 20, 21, 22, 23] 9 ps (fun _ post => pFind ps n = pFind post n) ?_ ?_ ?_ ?_
  · rfl
  · rfl
  · intro g G h2
    simp only [garbA_cons, garbA_nil, setL_cons, setL_nil, List.set_cons_zero, List.set_cons_succ]
    have e1 : psn ps n = noP := by rw [psn, h2]; rfl
    have e2 : isP ps n = false := by rw [isP, h2]; rfl
    rw [e1, e2]
    clear h2 e1 e2
    repeat' (first | refine go1 ?_ | refine blockK_else rfl ?_ | (refine wpC_cond fun A B hA hB => ?_; simp only [go_sem, reduceIte, Nat.reduceAdd, Nat.reduceEqDiff, Nat.reduceLT, Nat.reduceLeDiff, *, and_self, ints_len, List.length_map, Int.lt_irrefl, List.nil_append, List.cons_append]; first | (refine hA.out ?_; clear hA hB A B) | (refine hB.out ?_; clear hA hB A B) | (refine iteI (fun h => hA.out ?_) (fun h => hB.out ?_) <;> clear hA hB A B) | (refine iteI (fun h => hB.out ?_) (fun h => hA.out ?_) <;> clear hA hB A B)) | (refine wpO_cons fun K hK => ?_; simp only [go_sem, reduceIte, Nat.reduceAdd, Nat.reduceEqDiff, Nat.reduceLT, Nat.reduceLeDiff, *, and_self, ints_len, List.length_map, Int.lt_irrefl, List.nil_append, List.cons_append]; first | (refine hK.out _ _ ?_; clear hK K) | (refine iteI (fun h => hK.out _ _ ?_) (fun h => hK.out _ _ ?_) <;> clear hK K)))
    simp only [resultsR, resultsL, resultA, resK_some, getA_zero, getA_succ, go_sem, reduceIte, Nat.reduceAdd, Nat.reduceEqDiff, Nat.reduceLT, Nat.reduceLeDiff, and_self, List.getElem?_cons_succ, expK_tup]
    rw [if_pos (show idsOK _ = true from rfl)]
    simp only [expTops, expTop, expCells, k3, k4, k5, k6, encP, noP]
    simp [AV.stab]
  · intro g G pre x post h1 h2
    subst h1; simp only [garbA_cons, garbA_nil, setL_cons, setL_nil, List.set_cons_zero, List.set_cons_succ]
    have i1 := idx_sls hv (X := CX) ty24 ty27 rfl (map_mid encP pre x post) (k := .i64)
    have w1 := wrap_succ (n := pre.length) (by simp at hl; omega)
    by_cases hx : x.id = n
    · subst hx
      have e0 : pFind (x :: post) x.id = some x := by simp [pFind]
      have e1 : psn (pre ++ x :: post) x.id = x := by rw [psn, h2, e0]; rfl
      have e2 : isP (pre ++ x :: post) x.id = true := by rw [isP, h2, e0]; rfl
      rw [e1, e2]
      clear e0
      have hx' : (x.id == x.id) = true := by simp
      clear h2 e1 e2
      repeat' (first | refine go1 ?_ | refine blockK_else rfl ?_ | (refine wpC_cond fun A B hA hB => ?_; simp only [go_sem, reduceIte, Nat.reduceAdd, Nat.reduceEqDiff, Nat.reduceLT, Nat.reduceLeDiff, *, and_self, getElem?_len, getElem?_lenAdd, set_len, set_lenAdd, len_mid, ints_len, List.length_map, lt_mid, List.nil_append, i1, w1, encP, hx']; first | (refine hA.out ?_; clear hA hB A B) | (refine hB.out ?_; clear hA hB A B) | (refine iteI (fun h => hA.out ?_) (fun h => hB.out ?_) <;> clear hA hB A B) | (refine iteI (fun h => hB.out ?_) (fun h => hA.out ?_) <;> clear hA hB A B)) | (refine wpO_cons fun K hK => ?_; simp only [go_sem, reduceIte, Nat.reduceAdd, Nat.reduceEqDiff, Nat.reduceLT, Nat.reduceLeDiff, *, and_self, getElem?_len, getElem?_lenAdd, set_len, set_lenAdd, len_mid, ints_len, List.length_map, lt_mid, List.nil_append, i1, w1, encP, hx']; first | (refine hK.out _ _ ?_; clear hK K) | (refine iteI (fun h => hK.out _ _ ?_) (fun h => hK.out _ _ ?_) <;> clear hK K)))
      simp only [resultsR, resultsL, resultA, resK_some, getA_zero, getA_succ, go_sem, reduceIte, Nat.reduceAdd, Nat.reduceEqDiff, Nat.reduceLT, Nat.reduceLeDiff, and_self, List.getElem?_cons_succ, expK_tup]
      rw [if_pos (show idsOK _ = true from rfl)]
      simp only [expTops, expTop, expCells, k3, k4, k5, k6, encP]
      simp [AV.stab]
    · have hx' : (x.id == n) = false := by simpa using hx
      have hh : Hold (pFind (pre ++ x :: post) n = pFind post n) := ⟨by rw [h2]; simp [pFind, hx]⟩
      clear h2
      repeat' (first | refine go1 ?_ | refine blockK_else rfl ?_ | (refine wpC_cond fun A B hA hB => ?_; simp only [go_sem, reduceIte, Nat.reduceAdd, Nat.reduceEqDiff, Nat.reduceLT, Nat.reduceLeDiff, *, and_self, getElem?_len, getElem?_lenAdd, set_len, set_lenAdd, len_mid, ints_len, List.length_map, lt_mid, List.nil_append, i1, w1, encP, hx']; first | (refine hA.out ?_; clear hA hB A B) | (refine hB.out ?_; clear hA hB A B) | (refine iteI (fun h => hA.out ?_) (fun h => hB.out ?_) <;> clear hA hB A B) | (refine iteI (fun h => hB.out ?_) (fun h => hA.out ?_) <;> clear hA hB A B)) | (refine wpO_cons fun K hK => ?_; simp only [go_sem, reduceIte, Nat.reduceAdd, Nat.reduceEqDiff, Nat.reduceLT, Nat.reduceLeDiff, *, and_self, getElem?_len, getElem?_lenAdd, set_len, set_lenAdd, len_mid, ints_len, List.length_map, lt_mid, List.nil_append, i1, w1, encP, hx']; first | (refine hK.out _ _ ?_; clear hK K) | (refine iteI (fun h => hK.out _ _ ?_) (fun h => hK.out _ _ ?_) <;> clear hK K)))
      refine each_next rfl ?_ ?_ ?_
      · exact hh.out
      · ((try simp only [eraseA_cons, eraseA_nil, setL_cons, setL_nil, List.set_cons_zero, List.set_cons_succ]); all_goals (first | rfl | (simp only [len_snoc, ints_len, List.length_map, ]; done) | (simp only [len_snoc, len_mid, ints_len, List.length_map, List.length_append, List.length_cons, List.length_nil, Nat.zero_add, ]; done) | (simp only [len_mid, len_snoc, ints_len, List.length_map, List.length_append, List.length_cons, List.length_nil, Nat.zero_add, ]; rfl)))
      · first | exact ⟨[], (List.append_nil _).symm⟩ | exact ⟨_, rfl⟩ | (simp only [List.append_assoc, List.cons_append, List.nil_append]; exact ⟨_, rfl⟩)

def idOK (n : Int) : Bool := decide (1 ≤ n) && decide (n ≤ 1099511627776)
theorem identR (n : Int) : EvV CX 38 [.int .i64 n] (· = .bool (idOK n)) := by
  unfold idOK
  refine EvV.walk rfl fn38 rfl nt38 rfl ?_
  simp only [List.length_cons, List.length_nil, List.cons_append, List.nil_append, Nat.reduceAdd, Nat.reduceSub, List.replicate]
  repeat' (first | refine go1 ?_ | refine blockK_else rfl ?_ | (refine wpC_cond fun A B hA hB => ?_; simp only [go_sem, reduceIte, Nat.reduceAdd, Nat.reduceEqDiff, Nat.reduceLT, Nat.reduceLeDiff, *, and_self, ]; first | (refine hA.out ?_; clear hA hB A B) | (refine hB.out ?_; clear hA hB A B) | (refine iteI (fun h => hA.out ?_) (fun h => hB.out ?_) <;> clear hA hB A B) | (refine iteI (fun h => hB.out ?_) (fun h => hA.out ?_) <;> clear hA hB A B)) | (refine wpO_cons fun K hK => ?_; simp only [go_sem, reduceIte, Nat.reduceAdd, Nat.reduceEqDiff, Nat.reduceLT, Nat.reduceLeDiff, *, and_self, ]; first | (refine hK.out _ _ ?_; clear hK K) | (refine iteI (fun h => hK.out _ _ ?_) (fun h => hK.out _ _ ?_) <;> clear hK K)))
  all_goals
    simp only [resultsR, resultsL, resultA, expK_int, expK_bool, expK_str, expK_agg, expK_own, expK_tsl, resK_some, go_sem, reduceIte, Nat.reduceAdd, Nat.reduceEqDiff, Nat.reduceLT, Nat.reduceLeDiff, and_self, ]
    simp [*]

/- The reference's Points, Label, People. -/
open Go.Proofs
attribute [local go_sem] br48 List.replicate Nat.one_mul Nat.reduceMul Nat.zero_mul appK bslA fz67 fz68 lenK_esl lenK_nils lenK_sl lenK_tsl nilsK rowsFill rowsOf_esl rowsOf_nils rowsOf_sl rowsOf_tsl ty5 br34 fz63
set_option maxHeartbeats 4000000

theorem Option.map_map' {α : Type} (o : Option (List α)) (a : List α) (p : α) : (o.map (p :: ·)).map (a ++ ·) = o.map ((a ++ [p]) ++ ·) := by
  cases o <;> simp

def natI (l : List Nat) : List Int := l.map (fun n : Nat => ((n : Nat) : Int))
def ptsV : Option (List Nat) → AV
  | some l => .tup [.osl 1 (ints (natI l)), .bool true]
  | none => .tup [.osl 1 [], .bool false]

theorem ptsE (s : ByteArray) (hs : s.size ≤ 1048576) : EvV CX 34 [.str s] (· = ptsV (pts s.data.toList)) := by
  obtain ⟨l, hl⟩ : ∃ l, s.data.toList = l := ⟨_, rfl⟩
  have hlen := str_len hl
  rw [hl]
  have k5 : ∀ (S : Store) (m : Bool), expTop S (.bool m) = some (.bool m) := fun _ _ => rfl
  refine EvV.walk rfl fn34 rfl nt34 rfl ?_
  simp only [List.length_cons, List.length_nil, List.cons_append, List.nil_append, Nat.reduceAdd, Nat.reduceSub, List.replicate]
  repeat' (first | refine go1 ?_ | refine blockK_else rfl ?_ | (refine wpC_cond fun A B hA hB => ?_; simp only [go_sem, reduceIte, Nat.reduceAdd, Nat.reduceEqDiff, Nat.reduceLT, Nat.reduceLeDiff, *, wpK_append ty33 rfl, wpK_assignN ty33 rfl, wpK_buildSlice ty33 rfl, ]; first | (refine hA.out ?_; clear hA hB A B) | (refine hB.out ?_; clear hA hB A B) | (refine iteI (fun h => hA.out ?_) (fun h => hB.out ?_) <;> clear hA hB A B) | (refine iteI (fun h => hB.out ?_) (fun h => hA.out ?_) <;> clear hA hB A B)) | (refine wpO_cons fun K hK => ?_; simp only [go_sem, reduceIte, Nat.reduceAdd, Nat.reduceEqDiff, Nat.reduceLT, Nat.reduceLeDiff, *, wpK_append ty33 rfl, wpK_assignN ty33 rfl, wpK_buildSlice ty33 rfl, ]; first | (refine hK.out _ _ ?_; clear hK K) | (refine iteI (fun h => hK.out _ _ ?_) (fun h => hK.out _ _ ?_) <;> clear hK K)))
  refine wpC_loopF [2, 3, 6, 7, 8, 9, 10, 11, 12, 13, 14, 15, 16, 17, 18, 19, 20, 21, 22, 23, 24, 25, 26] (fun a : List UInt8 × List UInt8 × List Nat => [(4, .sl 1 a.2.2.length 0 a.2.2.length 1), (5, .int .i64 (a.1.length : Int))]) (fun a G => .arr [] 1 0 true :: .arr (ints (natI a.2.2)) 1 0 true :: G)
    (fun a => l = a.1 ++ a.2.1 ∧ a.2.2.length ≤ a.1.length ∧ pts l = (pts a.2.1).map (a.2.2 ++ ·)) (fun a => a.2.1.length) ([], l, []) ⟨rfl, Nat.le_refl _, by cases pts l <;> simp⟩ ?_ ⟨[], rfl⟩ ?_
  · rfl
  rintro ⟨pre, rest, out⟩ g G ⟨h1, h2, h3⟩
  simp only at h1 h2 h3
  rw [h3]
  simp only [garbA_cons, garbA_nil, setL_cons, setL_nil, List.set_cons_zero, List.set_cons_succ]
  have hsz : (s.size : Int) = (l.length : Int) := by rw [hlen]
  have hnl : (natI out).length = out.length := by simp [natI]
  cases rest with
  | nil =>
    rw [List.append_nil] at h1
    have e : (l.length : Int) = (pre.length : Int) := by rw [h1]
    rw [pts_nil]
    clear h1 h3
    repeat' (first | refine go1 ?_ | refine blockK_else rfl ?_ | (refine wpC_cond fun A B hA hB => ?_; simp only [go_sem, reduceIte, Nat.reduceAdd, Nat.reduceEqDiff, Nat.reduceLT, Nat.reduceLeDiff, *, wpK_append ty33 rfl, wpK_assignN ty33 rfl, wpK_buildSlice ty33 rfl, wpK_index, wpK_slice, wpK_assignS, wpK_moveS, evalA_str, lenK_str, hsz, e, Int.lt_irrefl]; first | (refine hA.out ?_; clear hA hB A B) | (refine hB.out ?_; clear hA hB A B) | (refine iteI (fun h => hA.out ?_) (fun h => hB.out ?_) <;> clear hA hB A B) | (refine iteI (fun h => hB.out ?_) (fun h => hA.out ?_) <;> clear hA hB A B)) | (refine wpO_cons fun K hK => ?_; simp only [go_sem, reduceIte, Nat.reduceAdd, Nat.reduceEqDiff, Nat.reduceLT, Nat.reduceLeDiff, *, wpK_append ty33 rfl, wpK_assignN ty33 rfl, wpK_buildSlice ty33 rfl, wpK_index, wpK_slice, wpK_assignS, wpK_moveS, evalA_str, lenK_str, hsz, e, Int.lt_irrefl]; first | (refine hK.out _ _ ?_; clear hK K) | (refine iteI (fun h => hK.out _ _ ?_) (fun h => hK.out _ _ ?_) <;> clear hK K)))
    simp only [resultsR, resultsL, resultA, resK_some, getA_zero, getA_succ, go_sem, reduceIte, Nat.reduceAdd, Nat.reduceEqDiff, Nat.reduceLT, Nat.reduceLeDiff, expK_tup]
    simp [idsOK, ownIds, lentIds, expTops, expTop, k5, ptsV, ints, natI, AV.stab]
  | cons c tl =>
    have lt1 : (pre.length : Int) < (l.length : Int) := by rw [h1]; simp; omega
    have q := (fstE s hs (hl.trans h1)).rw
    cases hf : fstU (c :: tl) with
    | none =>
      rw [hf, fstV] at q
      rw [pts_none hf]
      clear h1 h3 hf
      repeat' (first | refine go1 ?_ | refine blockK_else rfl ?_ | (refine wpC_cond fun A B hA hB => ?_; simp only [go_sem, reduceIte, Nat.reduceAdd, Nat.reduceEqDiff, Nat.reduceLT, Nat.reduceLeDiff, *, wpK_append ty33 rfl, wpK_assignN ty33 rfl, wpK_buildSlice ty33 rfl, wpK_index, wpK_slice, wpK_assignS, wpK_moveS, evalA_str, lenK_str, hsz, lt1, q, adopt_tup, adoptL, adopt1]; first | (refine hA.out ?_; clear hA hB A B) | (refine hB.out ?_; clear hA hB A B) | (refine iteI (fun h => hA.out ?_) (fun h => hB.out ?_) <;> clear hA hB A B) | (refine iteI (fun h => hB.out ?_) (fun h => hA.out ?_) <;> clear hA hB A B)) | (refine wpO_cons fun K hK => ?_; simp only [go_sem, reduceIte, Nat.reduceAdd, Nat.reduceEqDiff, Nat.reduceLT, Nat.reduceLeDiff, *, wpK_append ty33 rfl, wpK_assignN ty33 rfl, wpK_buildSlice ty33 rfl, wpK_index, wpK_slice, wpK_assignS, wpK_moveS, evalA_str, lenK_str, hsz, lt1, q, adopt_tup, adoptL, adopt1]; first | (refine hK.out _ _ ?_; clear hK K) | (refine iteI (fun h => hK.out _ _ ?_) (fun h => hK.out _ _ ?_) <;> clear hK K)))
      simp only [resultsR, resultsL, resultA, resK_some, getA_zero, getA_succ, go_sem, reduceIte, Nat.reduceAdd, Nat.reduceEqDiff, Nat.reduceLT, Nat.reduceLeDiff, expK_tup]
      simp [idsOK, ownIds, lentIds, expTops, expTop, k5, ptsV, AV.stab]
    | some pn =>
      obtain ⟨p, n⟩ := pn
      rw [hf, fstV] at q
      have hn := fstU_n hf
      have hlp : l.length = pre.length + (tl.length + 1) := by rw [h1]; simp
      simp only [List.length_cons] at hn
      have b1 : (out.length + 1) * 8 ≤ 140737488355328 := by omega
      have b2 : out.length + 1 ≤ 140737488355328 := by omega
      have z : ((n : Int) == 0) = false := by simp; omega
      have z2 : ¬ (n : Int) = 0 := by omega
      have w1 : IntKind.wrap .i64 ((pre.length : Int) + (n : Int)) = ((pre.length + n : Nat) : Int) := wI (n := pre.length + n) (by omega)
      have hh : Hold (l = (pre ++ (c :: tl).take n) ++ (c :: tl).drop n ∧ (pre ++ (c :: tl).take n).length = pre.length + n ∧ (pts (c :: tl)).map (out ++ ·) = (pts ((c :: tl).drop n)).map ((out ++ [p]) ++ ·)) := by
        refine ⟨⟨?_, ?_, ?_⟩⟩
        · rw [List.append_assoc, List.take_append_drop]; exact h1
        · simp only [List.length_append, List.length_take, List.length_cons]; omega
        · rw [pts_some hf, Option.map_map']
      have hl2 : out.length ≤ 1048576 := by omega
      clear h1 h3 hf hlp
      repeat' (first | refine go1 ?_ | refine blockK_else rfl ?_ | (refine wpC_cond fun A B hA hB => ?_; simp only [go_sem, reduceIte, Nat.reduceAdd, Nat.reduceEqDiff, Nat.reduceLT, Nat.reduceLeDiff, *, wpK_append ty33 rfl, wpK_assignN ty33 rfl, wpK_buildSlice ty33 rfl, wpK_index, wpK_slice, wpK_assignS, wpK_moveS, evalA_str, lenK_str, hsz, lt1, q, adopt_tup, adoptL, adopt1, z, z2, w1, getElem?_len, getElem?_lenAdd, set_len, set_lenAdd, len_mid, ints_len, List.length_map, lt_mid, List.nil_append, snap_sl, rowsOf_sl, ints_len, ints_take, List.take_length, Nat.zero_le, Nat.zero_add, Bool.true_or, List.getElem?_cons_succ, List.append_assoc, b1, b2, hnl]; first | (refine hA.out ?_; clear hA hB A B) | (refine hB.out ?_; clear hA hB A B) | (refine iteI (fun h => hA.out ?_) (fun h => hB.out ?_) <;> clear hA hB A B) | (refine iteI (fun h => hB.out ?_) (fun h => hA.out ?_) <;> clear hA hB A B)) | (refine wpO_cons fun K hK => ?_; simp only [go_sem, reduceIte, Nat.reduceAdd, Nat.reduceEqDiff, Nat.reduceLT, Nat.reduceLeDiff, *, wpK_append ty33 rfl, wpK_assignN ty33 rfl, wpK_buildSlice ty33 rfl, wpK_index, wpK_slice, wpK_assignS, wpK_moveS, evalA_str, lenK_str, hsz, lt1, q, adopt_tup, adoptL, adopt1, z, z2, w1, getElem?_len, getElem?_lenAdd, set_len, set_lenAdd, len_mid, ints_len, List.length_map, lt_mid, List.nil_append, snap_sl, rowsOf_sl, ints_len, ints_take, List.take_length, Nat.zero_le, Nat.zero_add, Bool.true_or, List.getElem?_cons_succ, List.append_assoc, b1, b2, hnl]; first | (refine hK.out _ _ ?_; clear hK K) | (refine iteI (fun h => hK.out _ _ ?_) (fun h => hK.out _ _ ?_) <;> clear hK K)))
      refine loopF_next (pre ++ (c :: tl).take n, (c :: tl).drop n, out ++ [p]) ?_ ⟨hh.out.1, ?_, hh.out.2.2⟩ ?_ ?_
      · simp only [List.length_drop, List.length_cons]; omega
      · rw [hh.out.2.1]; simp; omega
      · ((try simp only [eraseA_cons, eraseA_nil, setL_cons, setL_nil, List.set_cons_zero, List.set_cons_succ]); all_goals (first | rfl | (simp only [len_snoc, ints_len, List.length_map, hh.out.2.1]; done) | (simp only [len_snoc, len_mid, ints_len, List.length_map, List.length_append, List.length_cons, List.length_nil, Nat.zero_add, hh.out.2.1]; done) | (simp only [len_mid, len_snoc, ints_len, List.length_map, List.length_append, List.length_cons, List.length_nil, Nat.zero_add, hh.out.2.1]; rfl)))
      · exact ⟨_, by simp [natI, ints]; rfl⟩

/-- What a label is. -/
def okc (c : UInt8) : Bool := decide (32 ≤ (c.toNat : Int)) && decide ((c.toNat : Int) ≠ 127)
def labU (l : List UInt8) : Bool := l.all okc && ((pts l).isSome && (decide (1 ≤ l.length) && decide (l.length ≤ 32)))

theorem labelR (s : ByteArray) (hs : s.size ≤ 1048576) : EvV CX 15 [.str s] (· = .bool (labU s.data.toList)) := by
  have q := (ptsE s hs).rw
  obtain ⟨l, hl⟩ : ∃ l, s.data.toList = l := ⟨_, rfl⟩
  have hlen := str_len hl
  rw [hl] at q ⊢
  have hsz : (s.size : Int) = (l.length : Int) := by rw [hlen]
  refine EvV.walk rfl fn15 rfl nt15 rfl ?_
  simp only [List.length_cons, List.length_nil, List.cons_append, List.nil_append, Nat.reduceAdd, Nat.reduceSub, List.replicate]
  repeat' (first | refine go1 ?_ | refine blockK_else rfl ?_ | (refine wpC_cond fun A B hA hB => ?_; simp only [go_sem, reduceIte, Nat.reduceAdd, Nat.reduceEqDiff, Nat.reduceLT, Nat.reduceLeDiff, *, and_self, ]; first | (refine hA.out ?_; clear hA hB A B) | (refine hB.out ?_; clear hA hB A B) | (refine iteI (fun h => hA.out ?_) (fun h => hB.out ?_) <;> clear hA hB A B) | (refine iteI (fun h => hB.out ?_) (fun h => hA.out ?_) <;> clear hA hB A B)) | (refine wpO_cons fun K hK => ?_; simp only [go_sem, reduceIte, Nat.reduceAdd, Nat.reduceEqDiff, Nat.reduceLT, Nat.reduceLeDiff, *, and_self, ]; first | (refine hK.out _ _ ?_; clear hK K) | (refine iteI (fun h => hK.out _ _ ?_) (fun h => hK.out _ _ ?_) <;> clear hK K)))
  refine wpC_each [2, 6, 7, 8, 9, 10, 11, 12, 13, 14, 15, 16, 17, 18, 19, 20, 21] 3 l (fun pre post => l.all okc = post.all okc) ?_ ?_ ?_ ?_
  · rfl
  · rfl
  · intro g G h2
    have hE : labU l = ((pts l).isSome && (decide (1 ≤ l.length) && decide (l.length ≤ 32))) := by rw [labU, h2]; rfl
    rw [hE]
    clear hE h2
    simp only [garbA_cons, garbA_nil, setL_cons, setL_nil, List.set_cons_zero, List.set_cons_succ]
    cases hp : pts l with
    | none =>
      rw [hp, ptsV] at q
      repeat' (first | refine go1 ?_ | refine blockK_else rfl ?_ | (refine wpC_cond fun A B hA hB => ?_; simp only [go_sem, reduceIte, Nat.reduceAdd, Nat.reduceEqDiff, Nat.reduceLT, Nat.reduceLeDiff, *, and_self, wpK_index, wpK_slice, wpK_assignS, wpK_moveS, evalA_str, lenK_str, hsz, Int.lt_irrefl, q, adopt_tup, adoptL, adopt1]; first | (refine hA.out ?_; clear hA hB A B) | (refine hB.out ?_; clear hA hB A B) | (refine iteI (fun h => hA.out ?_) (fun h => hB.out ?_) <;> clear hA hB A B) | (refine iteI (fun h => hB.out ?_) (fun h => hA.out ?_) <;> clear hA hB A B)) | (refine wpO_cons fun K hK => ?_; simp only [go_sem, reduceIte, Nat.reduceAdd, Nat.reduceEqDiff, Nat.reduceLT, Nat.reduceLeDiff, *, and_self, wpK_index, wpK_slice, wpK_assignS, wpK_moveS, evalA_str, lenK_str, hsz, Int.lt_irrefl, q, adopt_tup, adoptL, adopt1]; first | (refine hK.out _ _ ?_; clear hK K) | (refine iteI (fun h => hK.out _ _ ?_) (fun h => hK.out _ _ ?_) <;> clear hK K)))
      simp only [resultsR, resultsL, resultA, expK_int, expK_bool, expK_str, expK_agg, expK_own, expK_tsl, resK_some, go_sem, reduceIte, Nat.reduceAdd, Nat.reduceEqDiff, Nat.reduceLT, Nat.reduceLeDiff, and_self, ]
      rfl
    | some ps =>
      rw [hp, ptsV] at q
      by_cases k1 : (1 : Int) ≤ (l.length : Int)
      · by_cases k2 : (l.length : Int) ≤ 32
        · repeat' (first | refine go1 ?_ | refine blockK_else rfl ?_ | (refine wpC_cond fun A B hA hB => ?_; simp only [go_sem, reduceIte, Nat.reduceAdd, Nat.reduceEqDiff, Nat.reduceLT, Nat.reduceLeDiff, *, and_self, wpK_index, wpK_slice, wpK_assignS, wpK_moveS, evalA_str, lenK_str, hsz, Int.lt_irrefl, q, adopt_tup, adoptL, adopt1]; first | (refine hA.out ?_; clear hA hB A B) | (refine hB.out ?_; clear hA hB A B) | (refine iteI (fun h => hA.out ?_) (fun h => hB.out ?_) <;> clear hA hB A B) | (refine iteI (fun h => hB.out ?_) (fun h => hA.out ?_) <;> clear hA hB A B)) | (refine wpO_cons fun K hK => ?_; simp only [go_sem, reduceIte, Nat.reduceAdd, Nat.reduceEqDiff, Nat.reduceLT, Nat.reduceLeDiff, *, and_self, wpK_index, wpK_slice, wpK_assignS, wpK_moveS, evalA_str, lenK_str, hsz, Int.lt_irrefl, q, adopt_tup, adoptL, adopt1]; first | (refine hK.out _ _ ?_; clear hK K) | (refine iteI (fun h => hK.out _ _ ?_) (fun h => hK.out _ _ ?_) <;> clear hK K)))
          simp only [resultsR, resultsL, resultA, expK_int, expK_bool, expK_str, expK_agg, expK_own, expK_tsl, resK_some, go_sem, reduceIte, Nat.reduceAdd, Nat.reduceEqDiff, Nat.reduceLT, Nat.reduceLeDiff, and_self, ]
          simp; omega
        · repeat' (first | refine go1 ?_ | refine blockK_else rfl ?_ | (refine wpC_cond fun A B hA hB => ?_; simp only [go_sem, reduceIte, Nat.reduceAdd, Nat.reduceEqDiff, Nat.reduceLT, Nat.reduceLeDiff, *, and_self, wpK_index, wpK_slice, wpK_assignS, wpK_moveS, evalA_str, lenK_str, hsz, Int.lt_irrefl, q, adopt_tup, adoptL, adopt1]; first | (refine hA.out ?_; clear hA hB A B) | (refine hB.out ?_; clear hA hB A B) | (refine iteI (fun h => hA.out ?_) (fun h => hB.out ?_) <;> clear hA hB A B) | (refine iteI (fun h => hB.out ?_) (fun h => hA.out ?_) <;> clear hA hB A B)) | (refine wpO_cons fun K hK => ?_; simp only [go_sem, reduceIte, Nat.reduceAdd, Nat.reduceEqDiff, Nat.reduceLT, Nat.reduceLeDiff, *, and_self, wpK_index, wpK_slice, wpK_assignS, wpK_moveS, evalA_str, lenK_str, hsz, Int.lt_irrefl, q, adopt_tup, adoptL, adopt1]; first | (refine hK.out _ _ ?_; clear hK K) | (refine iteI (fun h => hK.out _ _ ?_) (fun h => hK.out _ _ ?_) <;> clear hK K)))
          simp only [resultsR, resultsL, resultA, expK_int, expK_bool, expK_str, expK_agg, expK_own, expK_tsl, resK_some, go_sem, reduceIte, Nat.reduceAdd, Nat.reduceEqDiff, Nat.reduceLT, Nat.reduceLeDiff, and_self, ]
          simp; omega
      · repeat' (first | refine go1 ?_ | refine blockK_else rfl ?_ | (refine wpC_cond fun A B hA hB => ?_; simp only [go_sem, reduceIte, Nat.reduceAdd, Nat.reduceEqDiff, Nat.reduceLT, Nat.reduceLeDiff, *, and_self, wpK_index, wpK_slice, wpK_assignS, wpK_moveS, evalA_str, lenK_str, hsz, Int.lt_irrefl, q, adopt_tup, adoptL, adopt1]; first | (refine hA.out ?_; clear hA hB A B) | (refine hB.out ?_; clear hA hB A B) | (refine iteI (fun h => hA.out ?_) (fun h => hB.out ?_) <;> clear hA hB A B) | (refine iteI (fun h => hB.out ?_) (fun h => hA.out ?_) <;> clear hA hB A B)) | (refine wpO_cons fun K hK => ?_; simp only [go_sem, reduceIte, Nat.reduceAdd, Nat.reduceEqDiff, Nat.reduceLT, Nat.reduceLeDiff, *, and_self, wpK_index, wpK_slice, wpK_assignS, wpK_moveS, evalA_str, lenK_str, hsz, Int.lt_irrefl, q, adopt_tup, adoptL, adopt1]; first | (refine hK.out _ _ ?_; clear hK K) | (refine iteI (fun h => hK.out _ _ ?_) (fun h => hK.out _ _ ?_) <;> clear hK K)))
        simp only [resultsR, resultsL, resultA, expK_int, expK_bool, expK_str, expK_agg, expK_own, expK_tsl, resK_some, go_sem, reduceIte, Nat.reduceAdd, Nat.reduceEqDiff, Nat.reduceLT, Nat.reduceLeDiff, and_self, ]
        simp; omega
  · intro g G pre x post h1 h2
    simp only [garbA_cons, garbA_nil, setL_cons, setL_nil, List.set_cons_zero, List.set_cons_succ]
    have i0 := index_str (X := CX) (k := .i64) ty9 (str_get (hl.trans h1))
    have lt1 : (pre.length : Int) < (l.length : Int) := by rw [h1]; simp; omega
    have w1 := wrap_succ (n := pre.length) (by omega)
    have hh1 : Hold (l = pre ++ x :: post) := ⟨h1⟩
    have hh2 : Hold (l.all okc = (x :: post).all okc) := ⟨h2⟩
    clear h1 h2 q
    by_cases k1 : (x.toNat : Int) < 32
    · repeat' (first | refine go1 ?_ | refine blockK_else rfl ?_ | (refine wpC_cond fun A B hA hB => ?_; simp only [go_sem, reduceIte, Nat.reduceAdd, Nat.reduceEqDiff, Nat.reduceLT, Nat.reduceLeDiff, *, and_self, wpK_index, wpK_slice, wpK_assignS, wpK_moveS, evalA_str, lenK_str, i0, hsz, lt1, w1]; first | (refine hA.out ?_; clear hA hB A B) | (refine hB.out ?_; clear hA hB A B) | (refine iteI (fun h => hA.out ?_) (fun h => hB.out ?_) <;> clear hA hB A B) | (refine iteI (fun h => hB.out ?_) (fun h => hA.out ?_) <;> clear hA hB A B)) | (refine wpO_cons fun K hK => ?_; simp only [go_sem, reduceIte, Nat.reduceAdd, Nat.reduceEqDiff, Nat.reduceLT, Nat.reduceLeDiff, *, and_self, wpK_index, wpK_slice, wpK_assignS, wpK_moveS, evalA_str, lenK_str, i0, hsz, lt1, w1]; first | (refine hK.out _ _ ?_; clear hK K) | (refine iteI (fun h => hK.out _ _ ?_) (fun h => hK.out _ _ ?_) <;> clear hK K)))
      simp only [resultsR, resultsL, resultA, expK_int, expK_bool, expK_str, expK_agg, expK_own, expK_tsl, resK_some, go_sem, reduceIte, Nat.reduceAdd, Nat.reduceEqDiff, Nat.reduceLT, Nat.reduceLeDiff, and_self, ]
      have e : okc x = false := by simp [okc]; omega
      rw [labU, hh2.out, List.all_cons, e]; rfl
    by_cases k2 : (x.toNat : Int) = 127
    · have k2' : ((x.toNat : Int) == 127) = true := by simpa using k2
      have hk : Hold ((x.toNat : Int) = 127) := ⟨k2⟩
      clear k2
      repeat' (first | refine go1 ?_ | refine blockK_else rfl ?_ | (refine wpC_cond fun A B hA hB => ?_; simp only [go_sem, reduceIte, Nat.reduceAdd, Nat.reduceEqDiff, Nat.reduceLT, Nat.reduceLeDiff, *, and_self, wpK_index, wpK_slice, wpK_assignS, wpK_moveS, evalA_str, lenK_str, i0, hsz, lt1, w1, k2']; first | (refine hA.out ?_; clear hA hB A B) | (refine hB.out ?_; clear hA hB A B) | (refine iteI (fun h => hA.out ?_) (fun h => hB.out ?_) <;> clear hA hB A B) | (refine iteI (fun h => hB.out ?_) (fun h => hA.out ?_) <;> clear hA hB A B)) | (refine wpO_cons fun K hK => ?_; simp only [go_sem, reduceIte, Nat.reduceAdd, Nat.reduceEqDiff, Nat.reduceLT, Nat.reduceLeDiff, *, and_self, wpK_index, wpK_slice, wpK_assignS, wpK_moveS, evalA_str, lenK_str, i0, hsz, lt1, w1, k2']; first | (refine hK.out _ _ ?_; clear hK K) | (refine iteI (fun h => hK.out _ _ ?_) (fun h => hK.out _ _ ?_) <;> clear hK K)))
      simp only [resultsR, resultsL, resultA, expK_int, expK_bool, expK_str, expK_agg, expK_own, expK_tsl, resK_some, go_sem, reduceIte, Nat.reduceAdd, Nat.reduceEqDiff, Nat.reduceLT, Nat.reduceLeDiff, and_self, ]
      have e : okc x = false := by have := hk.out; simp [okc]; omega
      rw [labU, hh2.out, List.all_cons, e]; rfl
    · have k2' : ((x.toNat : Int) == 127) = false := by simpa using k2
      repeat' (first | refine go1 ?_ | refine blockK_else rfl ?_ | (refine wpC_cond fun A B hA hB => ?_; simp only [go_sem, reduceIte, Nat.reduceAdd, Nat.reduceEqDiff, Nat.reduceLT, Nat.reduceLeDiff, *, and_self, wpK_index, wpK_slice, wpK_assignS, wpK_moveS, evalA_str, lenK_str, i0, hsz, lt1, w1, k2']; first | (refine hA.out ?_; clear hA hB A B) | (refine hB.out ?_; clear hA hB A B) | (refine iteI (fun h => hA.out ?_) (fun h => hB.out ?_) <;> clear hA hB A B) | (refine iteI (fun h => hB.out ?_) (fun h => hA.out ?_) <;> clear hA hB A B)) | (refine wpO_cons fun K hK => ?_; simp only [go_sem, reduceIte, Nat.reduceAdd, Nat.reduceEqDiff, Nat.reduceLT, Nat.reduceLeDiff, *, and_self, wpK_index, wpK_slice, wpK_assignS, wpK_moveS, evalA_str, lenK_str, i0, hsz, lt1, w1, k2']; first | (refine hK.out _ _ ?_; clear hK K) | (refine iteI (fun h => hK.out _ _ ?_) (fun h => hK.out _ _ ?_) <;> clear hK K)))
      refine each_next hh1.out ?_ ?_ ?_
      · have e : okc x = true := by simp [okc]; omega
        rw [hh2.out, List.all_cons, e, Bool.true_and]
      · ((try simp only [eraseA_cons, eraseA_nil, setL_cons, setL_nil, List.set_cons_zero, List.set_cons_succ]); all_goals (first | rfl | (simp only [len_snoc, ints_len, List.length_map, ]; done) | (simp only [len_snoc, len_mid, ints_len, List.length_map, List.length_append, List.length_cons, List.length_nil, Nat.zero_add, ]; done) | (simp only [len_mid, len_snoc, ints_len, List.length_map, List.length_append, List.length_cons, List.length_nil, Nat.zero_add, ]; rfl)))
      · first | exact ⟨[], (List.append_nil _).symm⟩ | exact ⟨_, rfl⟩ | (simp only [List.append_assoc, List.cons_append, List.nil_append]; exact ⟨_, rfl⟩)

/- Labels, as the program tests them. -/
open Go.Proofs
attribute [local go_sem] ty48 ty51 br45 fz79 br31 br32 br33 fz45 fz46
set_option maxHeartbeats 4000000

/-- What runes.Points hands back. -/
def ptsP : Option (List Nat) → AV
  | none => .tup [.flat (.slice none 0 0), .bool false]
  | some l => if l.length = 0 then .tup [.flat (.slice none 0 0), .bool true] else .tup [.osl 1 (ints (natI l)), .bool true]
theorem pointsE (s : ByteArray) (hs : s.size ≤ 1073741824) : EvV CX 33 [.str s] (· = ptsP (pts s.data.toList)) := by
  cases h : pts s.data.toList with
  | none =>
    refine EvV.prim (r := .tup [.flat (.slice none 0 0), .bool false]) (S := []) rfl ?_ ?_
    · simp only [primPts, if_pos hs, h]
    · simp [exportA, idsOK, ownIds, expTop, expTops, AV.stab, ptsP]
  | some l =>
    by_cases h0 : l.length = 0
    · refine EvV.prim (r := .tup [.flat (.slice none 0 0), .bool true]) (S := []) rfl ?_ ?_
      · simp only [primPts, if_pos hs, h, if_pos h0]
      · simp [exportA, idsOK, ownIds, expTop, expTops, AV.stab, ptsP, h0]
    · refine EvV.prim (r := .tup [.sl 0 l.length 0 l.length 1, .bool true]) (S := [.arr (l.map fun n : Nat => [.int .i64 (n : Int)]) 1 0 true]) rfl ?_ ?_
      · simp only [primPts, if_pos hs, h, if_neg h0]
        rfl
      · have e : (l.map fun n : Nat => [AV.int .i64 (n : Int)]) = ints (natI l) := by simp [ints, natI]
        have e2 : (ints (natI l)).length = l.length := by simp [ints, natI]
        simp [exportA, idsOK, ownIds, lentIds, expTop, expTops, AV.stab, ptsP, h0, e, e2]

theorem adL1 {id : Nat} {b : Bool} : adoptL id [.flat (.slice none 0 0), .bool b] = ([.flat (.slice none 0 0), .bool b], []) := rfl
theorem adL2 {id : Nat} {b : Bool} {rows : List (List AV)} : adoptL id [.osl 1 rows, .bool b] = ([.sl id rows.length 0 rows.length 1, .bool b], [.arr rows 1 0 true]) := rfl

theorem label1E (c : UInt8) : EvV CX 32 [.int .u8 (c.toNat : Int)] (· = .bool (!okc c)) := by
  by_cases h1 : (c.toNat : Int) < 32
  · have k : okc c = false := by simp [okc]; omega
    rw [k]
    refine EvV.walk rfl fn32 rfl nt32 rfl ?_
    simp only [List.length_cons, List.length_nil, List.cons_append, List.nil_append, Nat.reduceAdd, Nat.reduceSub, List.replicate]
    repeat' (first | refine go1 ?_ | refine blockK_else rfl ?_ | (refine wpC_cond fun A B hA hB => ?_; simp only [go_sem, reduceIte, Nat.reduceAdd, Nat.reduceEqDiff, Nat.reduceLT, Nat.reduceLeDiff, *, and_self, ]; first | (refine hA.out ?_; clear hA hB A B) | (refine hB.out ?_; clear hA hB A B) | (refine iteI (fun h => hA.out ?_) (fun h => hB.out ?_) <;> clear hA hB A B) | (refine iteI (fun h => hB.out ?_) (fun h => hA.out ?_) <;> clear hA hB A B)) | (refine wpO_cons fun K hK => ?_; simp only [go_sem, reduceIte, Nat.reduceAdd, Nat.reduceEqDiff, Nat.reduceLT, Nat.reduceLeDiff, *, and_self, ]; first | (refine hK.out _ _ ?_; clear hK K) | (refine iteI (fun h => hK.out _ _ ?_) (fun h => hK.out _ _ ?_) <;> clear hK K)))
    simp only [resultsR, resultsL, resultA, expK_int, expK_bool, expK_str, expK_agg, expK_own, expK_tsl, resK_some, go_sem, reduceIte, Nat.reduceAdd, Nat.reduceEqDiff, Nat.reduceLT, Nat.reduceLeDiff, and_self, ]
  · have h2 : (32 : Int) ≤ (c.toNat : Int) := by omega
    by_cases h3 : (c.toNat : Int) = 127
    · have k : okc c = false := by simp [okc, h3]
      have h3' : ((c.toNat : Int) == 127) = true := by simp [h3]
      rw [k]
      clear h3
      refine EvV.walk rfl fn32 rfl nt32 rfl ?_
      simp only [List.length_cons, List.length_nil, List.cons_append, List.nil_append, Nat.reduceAdd, Nat.reduceSub, List.replicate]
      repeat' (first | refine go1 ?_ | refine blockK_else rfl ?_ | (refine wpC_cond fun A B hA hB => ?_; simp only [go_sem, reduceIte, Nat.reduceAdd, Nat.reduceEqDiff, Nat.reduceLT, Nat.reduceLeDiff, *, and_self, ]; first | (refine hA.out ?_; clear hA hB A B) | (refine hB.out ?_; clear hA hB A B) | (refine iteI (fun h => hA.out ?_) (fun h => hB.out ?_) <;> clear hA hB A B) | (refine iteI (fun h => hB.out ?_) (fun h => hA.out ?_) <;> clear hA hB A B)) | (refine wpO_cons fun K hK => ?_; simp only [go_sem, reduceIte, Nat.reduceAdd, Nat.reduceEqDiff, Nat.reduceLT, Nat.reduceLeDiff, *, and_self, ]; first | (refine hK.out _ _ ?_; clear hK K) | (refine iteI (fun h => hK.out _ _ ?_) (fun h => hK.out _ _ ?_) <;> clear hK K)))
      simp only [resultsR, resultsL, resultA, expK_int, expK_bool, expK_str, expK_agg, expK_own, expK_tsl, resK_some, go_sem, reduceIte, Nat.reduceAdd, Nat.reduceEqDiff, Nat.reduceLT, Nat.reduceLeDiff, and_self, h3']
    · have k : okc c = true := by simp [okc]; omega
      have h3' : ((c.toNat : Int) == 127) = false := by simp; omega
      rw [k]
      clear h3
      refine EvV.walk rfl fn32 rfl nt32 rfl ?_
      simp only [List.length_cons, List.length_nil, List.cons_append, List.nil_append, Nat.reduceAdd, Nat.reduceSub, List.replicate]
      repeat' (first | refine go1 ?_ | refine blockK_else rfl ?_ | (refine wpC_cond fun A B hA hB => ?_; simp only [go_sem, reduceIte, Nat.reduceAdd, Nat.reduceEqDiff, Nat.reduceLT, Nat.reduceLeDiff, *, and_self, ]; first | (refine hA.out ?_; clear hA hB A B) | (refine hB.out ?_; clear hA hB A B) | (refine iteI (fun h => hA.out ?_) (fun h => hB.out ?_) <;> clear hA hB A B) | (refine iteI (fun h => hB.out ?_) (fun h => hA.out ?_) <;> clear hA hB A B)) | (refine wpO_cons fun K hK => ?_; simp only [go_sem, reduceIte, Nat.reduceAdd, Nat.reduceEqDiff, Nat.reduceLT, Nat.reduceLeDiff, *, and_self, ]; first | (refine hK.out _ _ ?_; clear hK K) | (refine iteI (fun h => hK.out _ _ ?_) (fun h => hK.out _ _ ?_) <;> clear hK K)))
      simp only [resultsR, resultsL, resultA, expK_int, expK_bool, expK_str, expK_agg, expK_own, expK_tsl, resK_some, go_sem, reduceIte, Nat.reduceAdd, Nat.reduceEqDiff, Nat.reduceLT, Nat.reduceLeDiff, and_self, h3']

/-- The first byte that no label has. -/
def badI : List UInt8 → Nat → Int
  | [], _ => -1
  | c :: l, k => if okc c = true then badI l (k + 1) else (k : Int)
theorem badI_all : ∀ (l : List UInt8) (k : Nat), decide (0 ≤ badI l k) = !l.all okc
  | [], k => rfl
  | c :: l, k => by
    rw [badI, List.all_cons]
    by_cases h : okc c = true
    · rw [if_pos h, badI_all l, h, Bool.true_and]
    · rw [if_neg h]; simp [h]
theorem indexBE (l : List UInt8) (hl : l.length ≤ 1048576) (st : Bool) : EvV CX 45 [.tsl st 1 (bytesR l), .fn 32 []] (· = .int .i64 (badI l 0)) := by
  have hv : SLs 1 (bytesR l) (.tsl st 1 (bytesR l)) := .rows st
  have b1 : CX.byRef 32 = false := br32
  refine EvV.walk rfl fn45 rfl nt45 rfl ?_
  simp only [List.length_cons, List.length_nil, List.cons_append, List.nil_append, Nat.reduceAdd, Nat.reduceSub, List.replicate]
  repeat' (first | refine go1 ?_ | refine blockK_else rfl ?_ | (refine wpC_cond fun A B hA hB => ?_; simp only [go_sem, reduceIte, Nat.reduceAdd, Nat.reduceEqDiff, Nat.reduceLT, Nat.reduceLeDiff, *, and_self, lenK_sls hv]; first | (refine hA.out ?_; clear hA hB A B) | (refine hB.out ?_; clear hA hB A B) | (refine iteI (fun h => hA.out ?_) (fun h => hB.out ?_) <;> clear hA hB A B) | (refine iteI (fun h => hB.out ?_) (fun h => hA.out ?_) <;> clear hA hB A B)) | (refine wpO_cons fun K hK => ?_; simp only [go_sem, reduceIte, Nat.reduceAdd, Nat.reduceEqDiff, Nat.reduceLT, Nat.reduceLeDiff, *, and_self, lenK_sls hv]; first | (refine hK.out _ _ ?_; clear hK K) | (refine iteI (fun h => hK.out _ _ ?_) (fun h => hK.out _ _ ?_) <;> clear hK K)))
  refine wpC_each [4, 5, 9, 10, 11, 12, 13, 14, 15, 16, 17, 18] 8 l (fun pre post => badI l 0 = badI post pre.length) ?_ ?_ ?_ ?_
  · rfl
  · rfl
  · intro g G h2
    rw [h2]; simp only [garbA_cons, garbA_nil, setL_cons, setL_nil, List.set_cons_zero, List.set_cons_succ]
    repeat' (first | refine go1 ?_ | refine blockK_else rfl ?_ | (refine wpC_cond fun A B hA hB => ?_; simp only [go_sem, reduceIte, Nat.reduceAdd, Nat.reduceEqDiff, Nat.reduceLT, Nat.reduceLeDiff, *, and_self, bytesR_len, ints_len, List.length_map, Int.lt_irrefl, List.nil_append]; first | (refine hA.out ?_; clear hA hB A B) | (refine hB.out ?_; clear hA hB A B) | (refine iteI (fun h => hA.out ?_) (fun h => hB.out ?_) <;> clear hA hB A B) | (refine iteI (fun h => hB.out ?_) (fun h => hA.out ?_) <;> clear hA hB A B)) | (refine wpO_cons fun K hK => ?_; simp only [go_sem, reduceIte, Nat.reduceAdd, Nat.reduceEqDiff, Nat.reduceLT, Nat.reduceLeDiff, *, and_self, bytesR_len, ints_len, List.length_map, Int.lt_irrefl, List.nil_append]; first | (refine hK.out _ _ ?_; clear hK K) | (refine iteI (fun h => hK.out _ _ ?_) (fun h => hK.out _ _ ?_) <;> clear hK K)))
    simp only [resultsR, resultsL, resultA, expK_int, expK_bool, expK_str, expK_agg, expK_own, expK_tsl, resK_some, go_sem, reduceIte, Nat.reduceAdd, Nat.reduceEqDiff, Nat.reduceLT, Nat.reduceLeDiff, and_self, ]
    rfl
  · intro g G pre x post h1 h2
    rw [h2]
    have i1 := idx_sls hv (X := CX) ty48 ty5 rfl (n := pre.length) (row := [.int .u8 (x.toNat : Int)]) (by rw [h1]; simp [bytesR]) (k := .i64)
    have w1 := wrap_succ (n := pre.length) (by rw [h1] at hl; simp at hl; omega)
    have lt1 : (pre.length : Int) < (l.length : Int) := by rw [h1]; simp; omega
    have q := (label1E x).rw
    have hh1 : Hold (l = pre ++ x :: post) := ⟨h1⟩
    clear h1 h2
    simp only [garbA_cons, garbA_nil, setL_cons, setL_nil, List.set_cons_zero, List.set_cons_succ]
    by_cases hx : okc x = true
    · rw [hx] at q
      have hh : Hold (okc x = true) := ⟨hx⟩
      clear hx
      repeat' (first | refine go1 ?_ | refine blockK_else rfl ?_ | (refine wpC_cond fun A B hA hB => ?_; simp only [go_sem, reduceIte, Nat.reduceAdd, Nat.reduceEqDiff, Nat.reduceLT, Nat.reduceLeDiff, *, and_self, i1, w1, q, b1, bytesR_len]; first | (refine hA.out ?_; clear hA hB A B) | (refine hB.out ?_; clear hA hB A B) | (refine iteI (fun h => hA.out ?_) (fun h => hB.out ?_) <;> clear hA hB A B) | (refine iteI (fun h => hB.out ?_) (fun h => hA.out ?_) <;> clear hA hB A B)) | (refine wpO_cons fun K hK => ?_; simp only [go_sem, reduceIte, Nat.reduceAdd, Nat.reduceEqDiff, Nat.reduceLT, Nat.reduceLeDiff, *, and_self, i1, w1, q, b1, bytesR_len]; first | (refine hK.out _ _ ?_; clear hK K) | (refine iteI (fun h => hK.out _ _ ?_) (fun h => hK.out _ _ ?_) <;> clear hK K)))
      refine each_next hh1.out ?_ ?_ ?_
      · rw [badI, if_pos hh.out, len_snoc]
      · ((try simp only [eraseA_cons, eraseA_nil, setL_cons, setL_nil, List.set_cons_zero, List.set_cons_succ]); all_goals (first | rfl | (simp only [len_snoc, ints_len, List.length_map, bytesR_len]; done) | (simp only [len_snoc, len_mid, ints_len, List.length_map, List.length_append, List.length_cons, List.length_nil, Nat.zero_add, bytesR_len]; done) | (simp only [len_mid, len_snoc, ints_len, List.length_map, List.length_append, List.length_cons, List.length_nil, Nat.zero_add, bytesR_len]; rfl)))
      · first | exact ⟨[], (List.append_nil _).symm⟩ | exact ⟨_, rfl⟩ | (simp only [List.append_assoc, List.cons_append, List.nil_append]; exact ⟨_, rfl⟩)
    · have hx' : okc x = false := by simpa using hx
      rw [hx'] at q
      have hh : Hold (¬ okc x = true) := ⟨hx⟩
      clear hx hx'
      repeat' (first | refine go1 ?_ | refine blockK_else rfl ?_ | (refine wpC_cond fun A B hA hB => ?_; simp only [go_sem, reduceIte, Nat.reduceAdd, Nat.reduceEqDiff, Nat.reduceLT, Nat.reduceLeDiff, *, and_self, i1, w1, q, b1, bytesR_len]; first | (refine hA.out ?_; clear hA hB A B) | (refine hB.out ?_; clear hA hB A B) | (refine iteI (fun h => hA.out ?_) (fun h => hB.out ?_) <;> clear hA hB A B) | (refine iteI (fun h => hB.out ?_) (fun h => hA.out ?_) <;> clear hA hB A B)) | (refine wpO_cons fun K hK => ?_; simp only [go_sem, reduceIte, Nat.reduceAdd, Nat.reduceEqDiff, Nat.reduceLT, Nat.reduceLeDiff, *, and_self, i1, w1, q, b1, bytesR_len]; first | (refine hK.out _ _ ?_; clear hK K) | (refine iteI (fun h => hK.out _ _ ?_) (fun h => hK.out _ _ ?_) <;> clear hK K)))
      simp only [resultsR, resultsL, resultA, expK_int, expK_bool, expK_str, expK_agg, expK_own, expK_tsl, resK_some, go_sem, reduceIte, Nat.reduceAdd, Nat.reduceEqDiff, Nat.reduceLT, Nat.reduceLeDiff, and_self, ]
      rw [badI, if_neg hh.out]
theorem containsBE (l : List UInt8) (hl : l.length ≤ 1048576) (st : Bool) : EvV CX 31 [.tsl st 1 (bytesR l), .fn 32 []] (· = .bool (!l.all okc)) := by
  have q := (indexBE l hl st).rw
  have s1 : ∀ S, snap S (.tsl st 1 (bytesR l)) = some (.tsl st 1 (bytesR l)) := fun S => by simp only [snap]
  have e := badI_all l 0
  refine EvV.walk rfl fn31 rfl nt31 rfl ?_
  simp only [List.length_cons, List.length_nil, List.cons_append, List.nil_append, Nat.reduceAdd, Nat.reduceSub, List.replicate]
  repeat' (first | refine go1 ?_ | refine blockK_else rfl ?_ | (refine wpC_cond fun A B hA hB => ?_; simp only [go_sem, reduceIte, Nat.reduceAdd, Nat.reduceEqDiff, Nat.reduceLT, Nat.reduceLeDiff, *, and_self, s1, q, e]; first | (refine hA.out ?_; clear hA hB A B) | (refine hB.out ?_; clear hA hB A B) | (refine iteI (fun h => hA.out ?_) (fun h => hB.out ?_) <;> clear hA hB A B) | (refine iteI (fun h => hB.out ?_) (fun h => hA.out ?_) <;> clear hA hB A B)) | (refine wpO_cons fun K hK => ?_; simp only [go_sem, reduceIte, Nat.reduceAdd, Nat.reduceEqDiff, Nat.reduceLT, Nat.reduceLeDiff, *, and_self, s1, q, e]; first | (refine hK.out _ _ ?_; clear hK K) | (refine iteI (fun h => hK.out _ _ ?_) (fun h => hK.out _ _ ?_) <;> clear hK K)))
  simp only [resultsR, resultsL, resultA, expK_int, expK_bool, expK_str, expK_agg, expK_own, expK_tsl, resK_some, go_sem, reduceIte, Nat.reduceAdd, Nat.reduceEqDiff, Nat.reduceLT, Nat.reduceLeDiff, and_self, e]

theorem labelM (s : ByteArray) (hs : s.size ≤ 1048576) : EvV CX 14 [.str s] (· = .bool (labU s.data.toList)) := by
  have q := (pointsE s (by omega)).rw
  obtain ⟨l, hl⟩ : ∃ l, s.data.toList = l := ⟨_, rfl⟩
  have hlen := str_len hl
  have h0 : (s.toList == (⟨#[]⟩ : ByteArray).toList) = decide (l.length = 0) := by
    rw [toList_data, toList_data, hl]
    cases l <;> simp
  have hsz : (s.size : Int) = (l.length : Int) := by rw [hlen]
  have qc := fun st => (containsBE l (by omega) st).rw
  have s1 : ∀ st S, snap S (.tsl st 1 (bytesR l)) = some (.tsl st 1 (bytesR l)) := fun st S => by simp only [snap]
  have hsz2 : s.size ≤ 140737488355328 := by omega
  rw [hl] at q ⊢
  have hh : Hold (s.data.toList = l) := ⟨hl⟩
  clear hl hlen
  by_cases k0 : l.length = 0
  · have e0 : decide (l.length = 0) = true := by simp [k0]
    have hE : labU l = false := by simp [labU, k0]
    rw [e0] at h0
    rw [hE]
    clear hE e0 k0
    refine EvV.walk rfl fn14 rfl nt14 rfl ?_
    simp only [List.length_cons, List.length_nil, List.cons_append, List.nil_append, Nat.reduceAdd, Nat.reduceSub, List.replicate]
    repeat' (first | refine go1 ?_ | refine blockK_else rfl ?_ | (refine wpC_cond fun A B hA hB => ?_; simp only [go_sem, reduceIte, Nat.reduceAdd, Nat.reduceEqDiff, Nat.reduceLT, Nat.reduceLeDiff, *, and_self, evalA_str, strBin, h0]; first | (refine hA.out ?_; clear hA hB A B) | (refine hB.out ?_; clear hA hB A B) | (refine iteI (fun h => hA.out ?_) (fun h => hB.out ?_) <;> clear hA hB A B) | (refine iteI (fun h => hB.out ?_) (fun h => hA.out ?_) <;> clear hA hB A B)) | (refine wpO_cons fun K hK => ?_; simp only [go_sem, reduceIte, Nat.reduceAdd, Nat.reduceEqDiff, Nat.reduceLT, Nat.reduceLeDiff, *, and_self, evalA_str, strBin, h0]; first | (refine hK.out _ _ ?_; clear hK K) | (refine iteI (fun h => hK.out _ _ ?_) (fun h => hK.out _ _ ?_) <;> clear hK K)))
    simp only [resultsR, resultsL, resultA, expK_int, expK_bool, expK_str, expK_agg, expK_own, expK_tsl, resK_some, go_sem, reduceIte, Nat.reduceAdd, Nat.reduceEqDiff, Nat.reduceLT, Nat.reduceLeDiff, and_self, ]
  have e0 : decide (l.length = 0) = false := by simp [k0]
  rw [e0] at h0
  clear e0
  by_cases k1 : l.length ≤ 32
  · have n1 : ¬ (32 : Int) < (l.length : Int) := by omega
    have k2 : (decide (1 ≤ l.length) && decide (l.length ≤ 32)) = true := by simp; omega
    have hl := hh.out
    by_cases k3 : l.all okc = true
    · rw [k3] at qc
      have hE : labU l = (pts l).isSome := by rw [labU, k2, k3, Bool.and_true, Bool.true_and]
      rw [hE]
      cases hp : pts l with
      | none =>
        rw [hp] at q
        clear hE k2 k3 k1 k0 hp
        simp only [ptsP] at q
        refine EvV.walk rfl fn14 rfl nt14 rfl ?_
        simp only [List.length_cons, List.length_nil, List.cons_append, List.nil_append, Nat.reduceAdd, Nat.reduceSub, List.replicate]
        repeat' (first | refine go1 ?_ | refine blockK_else rfl ?_ | (refine wpC_cond fun A B hA hB => ?_; simp only [go_sem, reduceIte, Nat.reduceAdd, Nat.reduceEqDiff, Nat.reduceLT, Nat.reduceLeDiff, *, and_self, evalA_str, strBin, h0, lenK_str, hsz, wpK_sb ty9 ty48 ty5 rfl rfl rfl, sbK_str hsz2, hl, s1, qc, q, adL1, adL2]; first | (refine hA.out ?_; clear hA hB A B) | (refine hB.out ?_; clear hA hB A B) | (refine iteI (fun h => hA.out ?_) (fun h => hB.out ?_) <;> clear hA hB A B) | (refine iteI (fun h => hB.out ?_) (fun h => hA.out ?_) <;> clear hA hB A B)) | (refine wpO_cons fun K hK => ?_; simp only [go_sem, reduceIte, Nat.reduceAdd, Nat.reduceEqDiff, Nat.reduceLT, Nat.reduceLeDiff, *, and_self, evalA_str, strBin, h0, lenK_str, hsz, wpK_sb ty9 ty48 ty5 rfl rfl rfl, sbK_str hsz2, hl, s1, qc, q, adL1, adL2]; first | (refine hK.out _ _ ?_; clear hK K) | (refine iteI (fun h => hK.out _ _ ?_) (fun h => hK.out _ _ ?_) <;> clear hK K)))
        simp only [resultsR, resultsL, resultA, expK_int, expK_bool, expK_str, expK_agg, expK_own, expK_tsl, resK_some, go_sem, reduceIte, Nat.reduceAdd, Nat.reduceEqDiff, Nat.reduceLT, Nat.reduceLeDiff, and_self, ]
        rfl
      | some m =>
        rw [hp] at q
        clear hE k2 k3 k1 k0 hp
        simp only [ptsP] at q
        by_cases hm : m.length = 0
        · rw [if_pos hm] at q
          clear hm
          refine EvV.walk rfl fn14 rfl nt14 rfl ?_
          simp only [List.length_cons, List.length_nil, List.cons_append, List.nil_append, Nat.reduceAdd, Nat.reduceSub, List.replicate]
          repeat' (first | refine go1 ?_ | refine blockK_else rfl ?_ | (refine wpC_cond fun A B hA hB => ?_; simp only [go_sem, reduceIte, Nat.reduceAdd, Nat.reduceEqDiff, Nat.reduceLT, Nat.reduceLeDiff, *, and_self, evalA_str, strBin, h0, lenK_str, hsz, wpK_sb ty9 ty48 ty5 rfl rfl rfl, sbK_str hsz2, hl, s1, qc, q, adL1, adL2]; first | (refine hA.out ?_; clear hA hB A B) | (refine hB.out ?_; clear hA hB A B) | (refine iteI (fun h => hA.out ?_) (fun h => hB.out ?_) <;> clear hA hB A B) | (refine iteI (fun h => hB.out ?_) (fun h => hA.out ?_) <;> clear hA hB A B)) | (refine wpO_cons fun K hK => ?_; simp only [go_sem, reduceIte, Nat.reduceAdd, Nat.reduceEqDiff, Nat.reduceLT, Nat.reduceLeDiff, *, and_self, evalA_str, strBin, h0, lenK_str, hsz, wpK_sb ty9 ty48 ty5 rfl rfl rfl, sbK_str hsz2, hl, s1, qc, q, adL1, adL2]; first | (refine hK.out _ _ ?_; clear hK K) | (refine iteI (fun h => hK.out _ _ ?_) (fun h => hK.out _ _ ?_) <;> clear hK K)))
          simp only [resultsR, resultsL, resultA, expK_int, expK_bool, expK_str, expK_agg, expK_own, expK_tsl, resK_some, go_sem, reduceIte, Nat.reduceAdd, Nat.reduceEqDiff, Nat.reduceLT, Nat.reduceLeDiff, and_self, ]
          rfl
        · rw [if_neg hm] at q
          clear hm
          refine EvV.walk rfl fn14 rfl nt14 rfl ?_
          simp only [List.length_cons, List.length_nil, List.cons_append, List.nil_append, Nat.reduceAdd, Nat.reduceSub, List.replicate]
          repeat' (first | refine go1 ?_ | refine blockK_else rfl ?_ | (refine wpC_cond fun A B hA hB => ?_; simp only [go_sem, reduceIte, Nat.reduceAdd, Nat.reduceEqDiff, Nat.reduceLT, Nat.reduceLeDiff, *, and_self, evalA_str, strBin, h0, lenK_str, hsz, wpK_sb ty9 ty48 ty5 rfl rfl rfl, sbK_str hsz2, hl, s1, qc, q, adL1, adL2]; first | (refine hA.out ?_; clear hA hB A B) | (refine hB.out ?_; clear hA hB A B) | (refine iteI (fun h => hA.out ?_) (fun h => hB.out ?_) <;> clear hA hB A B) | (refine iteI (fun h => hB.out ?_) (fun h => hA.out ?_) <;> clear hA hB A B)) | (refine wpO_cons fun K hK => ?_; simp only [go_sem, reduceIte, Nat.reduceAdd, Nat.reduceEqDiff, Nat.reduceLT, Nat.reduceLeDiff, *, and_self, evalA_str, strBin, h0, lenK_str, hsz, wpK_sb ty9 ty48 ty5 rfl rfl rfl, sbK_str hsz2, hl, s1, qc, q, adL1, adL2]; first | (refine hK.out _ _ ?_; clear hK K) | (refine iteI (fun h => hK.out _ _ ?_) (fun h => hK.out _ _ ?_) <;> clear hK K)))
          simp only [resultsR, resultsL, resultA, expK_int, expK_bool, expK_str, expK_agg, expK_own, expK_tsl, resK_some, go_sem, reduceIte, Nat.reduceAdd, Nat.reduceEqDiff, Nat.reduceLT, Nat.reduceLeDiff, and_self, ]
          rfl
    · have k3' : l.all okc = false := by simpa using k3
      rw [k3'] at qc
      have hE : labU l = false := by rw [labU, k3', Bool.false_and]
      rw [hE]
      clear hE k2 k3 k3' k1 k0
      refine EvV.walk rfl fn14 rfl nt14 rfl ?_
      simp only [List.length_cons, List.length_nil, List.cons_append, List.nil_append, Nat.reduceAdd, Nat.reduceSub, List.replicate]
      repeat' (first | refine go1 ?_ | refine blockK_else rfl ?_ | (refine wpC_cond fun A B hA hB => ?_; simp only [go_sem, reduceIte, Nat.reduceAdd, Nat.reduceEqDiff, Nat.reduceLT, Nat.reduceLeDiff, *, and_self, evalA_str, strBin, h0, lenK_str, hsz, wpK_sb ty9 ty48 ty5 rfl rfl rfl, sbK_str hsz2, hl, s1, qc, q, adL1, adL2]; first | (refine hA.out ?_; clear hA hB A B) | (refine hB.out ?_; clear hA hB A B) | (refine iteI (fun h => hA.out ?_) (fun h => hB.out ?_) <;> clear hA hB A B) | (refine iteI (fun h => hB.out ?_) (fun h => hA.out ?_) <;> clear hA hB A B)) | (refine wpO_cons fun K hK => ?_; simp only [go_sem, reduceIte, Nat.reduceAdd, Nat.reduceEqDiff, Nat.reduceLT, Nat.reduceLeDiff, *, and_self, evalA_str, strBin, h0, lenK_str, hsz, wpK_sb ty9 ty48 ty5 rfl rfl rfl, sbK_str hsz2, hl, s1, qc, q, adL1, adL2]; first | (refine hK.out _ _ ?_; clear hK K) | (refine iteI (fun h => hK.out _ _ ?_) (fun h => hK.out _ _ ?_) <;> clear hK K)))
      simp only [resultsR, resultsL, resultA, expK_int, expK_bool, expK_str, expK_agg, expK_own, expK_tsl, resK_some, go_sem, reduceIte, Nat.reduceAdd, Nat.reduceEqDiff, Nat.reduceLT, Nat.reduceLeDiff, and_self, ]
  · have n1 : (32 : Int) < (l.length : Int) := by omega
    have hE : labU l = false := by
      have : decide (l.length ≤ 32) = false := by simp [k1]
      rw [labU, this, Bool.and_false, Bool.and_false, Bool.and_false]
    rw [hE]
    clear hE k1 k0
    refine EvV.walk rfl fn14 rfl nt14 rfl ?_
    simp only [List.length_cons, List.length_nil, List.cons_append, List.nil_append, Nat.reduceAdd, Nat.reduceSub, List.replicate]
    repeat' (first | refine go1 ?_ | refine blockK_else rfl ?_ | (refine wpC_cond fun A B hA hB => ?_; simp only [go_sem, reduceIte, Nat.reduceAdd, Nat.reduceEqDiff, Nat.reduceLT, Nat.reduceLeDiff, *, and_self, evalA_str, strBin, h0, lenK_str, hsz]; first | (refine hA.out ?_; clear hA hB A B) | (refine hB.out ?_; clear hA hB A B) | (refine iteI (fun h => hA.out ?_) (fun h => hB.out ?_) <;> clear hA hB A B) | (refine iteI (fun h => hB.out ?_) (fun h => hA.out ?_) <;> clear hA hB A B)) | (refine wpO_cons fun K hK => ?_; simp only [go_sem, reduceIte, Nat.reduceAdd, Nat.reduceEqDiff, Nat.reduceLT, Nat.reduceLeDiff, *, and_self, evalA_str, strBin, h0, lenK_str, hsz]; first | (refine hK.out _ _ ?_; clear hK K) | (refine iteI (fun h => hK.out _ _ ?_) (fun h => hK.out _ _ ?_) <;> clear hK K)))
    simp only [resultsR, resultsL, resultA, expK_int, expK_bool, expK_str, expK_agg, expK_own, expK_tsl, resK_some, go_sem, reduceIte, Nat.reduceAdd, Nat.reduceEqDiff, Nat.reduceLT, Nat.reduceLeDiff, and_self, ]

/- The reference's People. -/
open Go.Proofs
attribute [local go_sem] ty30 br15 br38 fz64 fz66
set_option maxHeartbeats 4000000

def lastP (pre : List Psn) : Psn := pre.getLastD noP
def ordP (pre : List Psn) (x : Psn) : Bool := decide (pre = []) || decide ((lastP pre).id < x.id)
/-- What is wrong with a person. -/
def errP (pre : List Psn) (x : Psn) : Int := if idOK x.id = true then if ordP pre x = true then if labU x.name.data.toList = true then 0 else 7 else 10 else 2
def errPF : List Psn → List Psn → Int
  | _, [] => 0
  | pre, x :: post => if errP pre x = 0 then errPF (pre ++ [x]) post else errP pre x
def pplF (ps : List Psn) : Int := if ps.length ≤ 40 then errPF [] ps else 11

theorem ordP_cases {w : AV} {ps pre post : List Psn} {x : Psn} (hw : SLs 3 (ps.map encP) w) (hl : ps.length < 9223372036854775807) (hg : ps = pre ++ x :: post) :
    (ordP pre x = true ∧ ¬ (0 : Int) < (pre.length : Int)) ∨
    (ordP pre x = true ∧ ¬ x.id ≤ (lastP pre).id ∧ (0 : Int) < (pre.length : Int) ∧ indexAddrA CX 24 w (.int .i64 (IntKind.wrap .i64 ((pre.length : Int) - 1))) = some (.tptr (stOf w) (encP (lastP pre)) 0)) ∨
    (ordP pre x = false ∧ x.id ≤ (lastP pre).id ∧ (0 : Int) < (pre.length : Int) ∧ indexAddrA CX 24 w (.int .i64 (IntKind.wrap .i64 ((pre.length : Int) - 1))) = some (.tptr (stOf w) (encP (lastP pre)) 0)) := by
  by_cases hp : pre = []
  · left; exact ⟨by simp [ordP, hp], by simp [hp]⟩
  · have z0 : (0 : Int) < (pre.length : Int) := by have := List.length_pos_iff.mpr hp; omega
    have e : indexAddrA CX 24 w (.int .i64 (IntKind.wrap .i64 ((pre.length : Int) - 1))) = some (.tptr (stOf w) (encP (lastP pre)) 0) := prev_sls (f := encP) (by rw [← hg]; exact hw) (by rw [← hg]; omega) ty24 ty27 rfl noP z0
    by_cases hl : x.id ≤ (lastP pre).id
    · right; right; exact ⟨by simp [ordP, hp]; omega, hl, z0, e⟩
    · right; left; exact ⟨by simp [ordP, hp]; omega, hl, z0, e⟩

theorem peopleR {w : AV} {ps : List Psn} (hw : SLs 3 (ps.map encP) w) (hl : ps.length < 9223372036854775807) (hn : ∀ p ∈ ps, p.name.size ≤ 1048576) : EvV CX 20 [w] (· = .int .i64 (pplF ps)) := by
  by_cases k1 : 40 < (ps.length : Int)
  · refine EvV.walk rfl fn20 rfl nt20 rfl ?_
    simp only [List.length_cons, List.length_nil, List.cons_append, List.nil_append, Nat.reduceAdd, Nat.reduceSub, List.replicate]
    repeat' (first | refine go1 ?_ | refine blockK_else rfl ?_ | (refine wpO_cons fun K hK => ?_; simp only [go_sem, reduceIte, Nat.reduceAdd, Nat.reduceEqDiff, Nat.reduceLT, Nat.reduceLeDiff, *, and_self, lenK_sls hw, getElem?_len, getElem?_lenAdd, set_len, set_lenAdd, len_mid, ints_len, List.length_map, lt_mid, List.nil_append]; first | (refine hK.out _ _ ?_; clear hK K) | (refine iteI (fun h => hK.out _ _ ?_) (fun h => hK.out _ _ ?_) <;> clear hK K)))
    (refine wpC_cond fun A B hA hB => ?_; simp only [go_sem, reduceIte, Nat.reduceAdd, Nat.reduceEqDiff, Nat.reduceLT, Nat.reduceLeDiff, *, and_self, getElem?_len, getElem?_lenAdd, set_len, set_lenAdd, len_mid, ints_len, List.length_map, lt_mid, List.nil_append]; first | (refine hA.out ?_; clear hA hB A B) | (refine hB.out ?_; clear hA hB A B))
    repeat' (first | refine go1 ?_ | refine blockK_else rfl ?_ | (refine wpO_cons fun K hK => ?_; simp only [go_sem, reduceIte, Nat.reduceAdd, Nat.reduceEqDiff, Nat.reduceLT, Nat.reduceLeDiff, *, and_self, ]; first | (refine hK.out _ _ ?_; clear hK K) | (refine iteI (fun h => hK.out _ _ ?_) (fun h => hK.out _ _ ?_) <;> clear hK K)))
    simp only [resultsR, resultsL, resultA, expK_int, expK_bool, expK_str, expK_agg, expK_own, expK_tsl, resK_some, go_sem, reduceIte, Nat.reduceAdd, Nat.reduceEqDiff, Nat.reduceLT, Nat.reduceLeDiff, and_self, ]
    have : ¬ ps.length ≤ 40 := by omega
    simp [pplF, this]
  have l40 : ps.length ≤ 40 := by omega
  have hE : pplF ps = errPF [] ps := by rw [pplF, if_pos l40]
  rw [hE]
  clear hE
  refine EvV.walk rfl fn20 rfl nt20 rfl ?_
  simp only [List.length_cons, List.length_nil, List.cons_append, List.nil_append, Nat.reduceAdd, Nat.reduceSub, List.replicate]
  repeat' (first | refine go1 ?_ | refine blockK_else rfl ?_ | (refine wpO_cons fun K hK => ?_; simp only [go_sem, reduceIte, Nat.reduceAdd, Nat.reduceEqDiff, Nat.reduceLT, Nat.reduceLeDiff, *, and_self, lenK_sls hw, getElem?_len, getElem?_lenAdd, set_len, set_lenAdd, len_mid, ints_len, List.length_map, lt_mid, List.nil_append]; first | (refine hK.out _ _ ?_; clear hK K) | (refine iteI (fun h => hK.out _ _ ?_) (fun h => hK.out _ _ ?_) <;> clear hK K)))
  (refine wpC_cond fun A B hA hB => ?_; simp only [go_sem, reduceIte, Nat.reduceAdd, Nat.reduceEqDiff, Nat.reduceLT, Nat.reduceLeDiff, *, and_self, getElem?_len, getElem?_lenAdd, set_len, set_lenAdd, len_mid, ints_len, List.length_map, lt_mid, List.nil_append]; first | (refine hA.out ?_; clear hA hB A B) | (refine hB.out ?_; clear hA hB A B))
  repeat' (first | refine go1 ?_ | refine blockK_else rfl ?_ | (refine wpO_cons fun K hK => ?_; simp only [go_sem, reduceIte, Nat.reduceAdd, Nat.reduceEqDiff, Nat.reduceLT, Nat.reduceLeDiff, *, and_self, lenK_sls hw, getElem?_len, getElem?_lenAdd, set_len, set_lenAdd, len_mid, ints_len, List.length_map, lt_mid, List.nil_append]; first | (refine hK.out _ _ ?_; clear hK K) | (refine iteI (fun h => hK.out _ _ ?_) (fun h => hK.out _ _ ?_) <;> clear hK K)))
  clear k1
  refine wpC_each [2, 3, 10, 11, 12, 13, 14, 15, 16, 17, 18, 19, 20, 21, 22, 23, 24, 25, 26, 27, 28, 29, 30, 31, 32, 33, 34, 35, 36, 37, 38, 39, 40, 41, 42] 9 ps (fun pre post => errPF [] ps = errPF pre post) ?_ ?_ ?_ ?_
  · rfl
  · rfl
  · intro g G hE
    rw [hE]
    simp only [garbA_cons, garbA_nil, setL_cons, setL_nil, List.set_cons_zero, List.set_cons_succ]
    repeat' (first | refine go1 ?_ | refine blockK_else rfl ?_ | (refine wpC_cond fun A B hA hB => ?_; simp only [go_sem, reduceIte, Nat.reduceAdd, Nat.reduceEqDiff, Nat.reduceLT, Nat.reduceLeDiff, *, and_self, ints_len, List.length_map, Int.lt_irrefl, List.nil_append]; first | (refine hA.out ?_; clear hA hB A B) | (refine hB.out ?_; clear hA hB A B) | (refine iteI (fun h => hA.out ?_) (fun h => hB.out ?_) <;> clear hA hB A B) | (refine iteI (fun h => hB.out ?_) (fun h => hA.out ?_) <;> clear hA hB A B)) | (refine wpO_cons fun K hK => ?_; simp only [go_sem, reduceIte, Nat.reduceAdd, Nat.reduceEqDiff, Nat.reduceLT, Nat.reduceLeDiff, *, and_self, ints_len, List.length_map, Int.lt_irrefl, List.nil_append]; first | (refine hK.out _ _ ?_; clear hK K) | (refine iteI (fun h => hK.out _ _ ?_) (fun h => hK.out _ _ ?_) <;> clear hK K)))
    simp only [resultsR, resultsL, resultA, expK_int, expK_bool, expK_str, expK_agg, expK_own, expK_tsl, resK_some, go_sem, reduceIte, Nat.reduceAdd, Nat.reduceEqDiff, Nat.reduceLT, Nat.reduceLeDiff, and_self, ]
    rfl
  intro g G pre x post h1 hE
  have i0 := idx_sls hw (X := CX) ty24 ty27 rfl (n := pre.length) (row := encP x) (k := .i64) (by rw [h1]; exact map_mid encP pre x post)
  have lt1 : (pre.length : Int) < (ps.length : Int) := by rw [h1]; simp; omega
  have hpl : pre.length < ps.length := by rw [h1]; simp
  have w1 := wrap_succ (n := pre.length) (by omega)
  have hxn := hn x (by rw [h1]; simp)
  have ho := ordP_cases hw hl h1
  have hh1 : Hold (ps = pre ++ x :: post) := ⟨h1⟩
  have hhE : Hold (errPF [] ps = errPF pre (x :: post)) := ⟨hE⟩
  have qi := (identR x.id).rw
  have ql := (labelR x.name hxn).rw
  clear h1 hE l40
  simp only [garbA_cons, garbA_nil, setL_cons, setL_nil, List.set_cons_zero, List.set_cons_succ]
  by_cases k1 : idOK x.id = true
  rotate_left
  · have k1 : idOK x.id = false := by simpa using k1
    clear ho ql
    repeat' (first | refine go1 ?_ | refine blockK_else rfl ?_ | (refine wpC_cond fun A B hA hB => ?_; simp only [go_sem, reduceIte, Nat.reduceAdd, Nat.reduceEqDiff, Nat.reduceLT, Nat.reduceLeDiff, *, and_self, getElem?_len, getElem?_lenAdd, set_len, set_lenAdd, len_mid, ints_len, List.length_map, lt_mid, List.nil_append, i0, lt1, encP, qi]; first | (refine hA.out ?_; clear hA hB A B) | (refine hB.out ?_; clear hA hB A B) | (refine iteI (fun h => hA.out ?_) (fun h => hB.out ?_) <;> clear hA hB A B) | (refine iteI (fun h => hB.out ?_) (fun h => hA.out ?_) <;> clear hA hB A B)) | (refine wpO_cons fun K hK => ?_; simp only [go_sem, reduceIte, Nat.reduceAdd, Nat.reduceEqDiff, Nat.reduceLT, Nat.reduceLeDiff, *, and_self, getElem?_len, getElem?_lenAdd, set_len, set_lenAdd, len_mid, ints_len, List.length_map, lt_mid, List.nil_append, i0, lt1, encP, qi]; first | (refine hK.out _ _ ?_; clear hK K) | (refine iteI (fun h => hK.out _ _ ?_) (fun h => hK.out _ _ ?_) <;> clear hK K)))
    simp only [resultsR, resultsL, resultA, expK_int, expK_bool, expK_str, expK_agg, expK_own, expK_tsl, resK_some, go_sem, reduceIte, Nat.reduceAdd, Nat.reduceEqDiff, Nat.reduceLT, Nat.reduceLeDiff, and_self, ]
    rw [hhE.out, errPF]; simp [errP, k1]
  rcases ho with ⟨k2, e1⟩ | ⟨k2, e1, e2, e3⟩ | ⟨k2, e1, e2, e3⟩
  rotate_right
  · clear ql
    repeat' (first | refine go1 ?_ | refine blockK_else rfl ?_ | (refine wpC_cond fun A B hA hB => ?_; simp only [go_sem, reduceIte, Nat.reduceAdd, Nat.reduceEqDiff, Nat.reduceLT, Nat.reduceLeDiff, *, and_self, getElem?_len, getElem?_lenAdd, set_len, set_lenAdd, len_mid, ints_len, List.length_map, lt_mid, List.nil_append, i0, lt1, encP, qi]; first | (refine hA.out ?_; clear hA hB A B) | (refine hB.out ?_; clear hA hB A B) | (refine iteI (fun h => hA.out ?_) (fun h => hB.out ?_) <;> clear hA hB A B) | (refine iteI (fun h => hB.out ?_) (fun h => hA.out ?_) <;> clear hA hB A B)) | (refine wpO_cons fun K hK => ?_; simp only [go_sem, reduceIte, Nat.reduceAdd, Nat.reduceEqDiff, Nat.reduceLT, Nat.reduceLeDiff, *, and_self, getElem?_len, getElem?_lenAdd, set_len, set_lenAdd, len_mid, ints_len, List.length_map, lt_mid, List.nil_append, i0, lt1, encP, qi]; first | (refine hK.out _ _ ?_; clear hK K) | (refine iteI (fun h => hK.out _ _ ?_) (fun h => hK.out _ _ ?_) <;> clear hK K)))
    simp only [resultsR, resultsL, resultA, expK_int, expK_bool, expK_str, expK_agg, expK_own, expK_tsl, resK_some, go_sem, reduceIte, Nat.reduceAdd, Nat.reduceEqDiff, Nat.reduceLT, Nat.reduceLeDiff, and_self, ]
    rw [hhE.out, errPF]; simp [errP, k1, k2]
  all_goals
    by_cases k3 : labU x.name.data.toList = true
    · repeat' (first | refine go1 ?_ | refine blockK_else rfl ?_ | (refine wpC_cond fun A B hA hB => ?_; simp only [go_sem, reduceIte, Nat.reduceAdd, Nat.reduceEqDiff, Nat.reduceLT, Nat.reduceLeDiff, *, and_self, getElem?_len, getElem?_lenAdd, set_len, set_lenAdd, len_mid, ints_len, List.length_map, lt_mid, List.nil_append, i0, lt1, encP, qi, ql, snap_str, w1]; first | (refine hA.out ?_; clear hA hB A B) | (refine hB.out ?_; clear hA hB A B) | (refine iteI (fun h => hA.out ?_) (fun h => hB.out ?_) <;> clear hA hB A B) | (refine iteI (fun h => hB.out ?_) (fun h => hA.out ?_) <;> clear hA hB A B)) | (refine wpO_cons fun K hK => ?_; simp only [go_sem, reduceIte, Nat.reduceAdd, Nat.reduceEqDiff, Nat.reduceLT, Nat.reduceLeDiff, *, and_self, getElem?_len, getElem?_lenAdd, set_len, set_lenAdd, len_mid, ints_len, List.length_map, lt_mid, List.nil_append, i0, lt1, encP, qi, ql, snap_str, w1]; first | (refine hK.out _ _ ?_; clear hK K) | (refine iteI (fun h => hK.out _ _ ?_) (fun h => hK.out _ _ ?_) <;> clear hK K)))
      refine each_next hh1.out ?_ ?_ ?_
      · rw [hhE.out, errPF]; simp [errP, k1, k2, k3]
      · ((try simp only [eraseA_cons, eraseA_nil, setL_cons, setL_nil, List.set_cons_zero, List.set_cons_succ]); all_goals (first | rfl | (simp only [len_snoc, ints_len, List.length_map, ]; done) | (simp only [len_snoc, len_mid, ints_len, List.length_map, List.length_append, List.length_cons, List.length_nil, Nat.zero_add, ]; done) | (simp only [len_mid, len_snoc, ints_len, List.length_map, List.length_append, List.length_cons, List.length_nil, Nat.zero_add, ]; rfl)))
      · first | exact ⟨[], (List.append_nil _).symm⟩ | exact ⟨_, rfl⟩ | (simp only [List.append_assoc, List.cons_append, List.nil_append]; exact ⟨_, rfl⟩)
    · have k3 : labU x.name.data.toList = false := by simpa using k3
      repeat' (first | refine go1 ?_ | refine blockK_else rfl ?_ | (refine wpC_cond fun A B hA hB => ?_; simp only [go_sem, reduceIte, Nat.reduceAdd, Nat.reduceEqDiff, Nat.reduceLT, Nat.reduceLeDiff, *, and_self, getElem?_len, getElem?_lenAdd, set_len, set_lenAdd, len_mid, ints_len, List.length_map, lt_mid, List.nil_append, i0, lt1, encP, qi, ql, snap_str]; first | (refine hA.out ?_; clear hA hB A B) | (refine hB.out ?_; clear hA hB A B) | (refine iteI (fun h => hA.out ?_) (fun h => hB.out ?_) <;> clear hA hB A B) | (refine iteI (fun h => hB.out ?_) (fun h => hA.out ?_) <;> clear hA hB A B)) | (refine wpO_cons fun K hK => ?_; simp only [go_sem, reduceIte, Nat.reduceAdd, Nat.reduceEqDiff, Nat.reduceLT, Nat.reduceLeDiff, *, and_self, getElem?_len, getElem?_lenAdd, set_len, set_lenAdd, len_mid, ints_len, List.length_map, lt_mid, List.nil_append, i0, lt1, encP, qi, ql, snap_str]; first | (refine hK.out _ _ ?_; clear hK K) | (refine iteI (fun h => hK.out _ _ ?_) (fun h => hK.out _ _ ?_) <;> clear hK K)))
      simp only [resultsR, resultsL, resultA, expK_int, expK_bool, expK_str, expK_agg, expK_own, expK_tsl, resK_some, go_sem, reduceIte, Nat.reduceAdd, Nat.reduceEqDiff, Nat.reduceLT, Nat.reduceLeDiff, and_self, ]
      rw [hhE.out, errPF]; simp [errP, k1, k2, k3]

/- Persons and recordings: People and Check, as the program and the reference test them. -/
open Go.Proofs
attribute [local go_sem] br14 br37 fz47 fz48 ty35 br12 br17 fz50 fz51 fz52 br13 br18 fz69 fz70 fz71
set_option maxHeartbeats 4000000

theorem adoptAB {id : Nat} {cs : List AV} {b : Bool} : adoptA id (.tup [.agg cs, .bool b]) = (.tup [.agg cs, .bool b], []) := rfl
theorem identM (n : Int) : EvV CX 37 [.int .i64 n] (· = .bool (idOK n)) := by
  refine EvV.walk rfl fn37 rfl nt37 rfl ?_
  simp only [List.length_cons, List.length_nil, List.cons_append, List.nil_append, Nat.reduceAdd, Nat.reduceSub, List.replicate]
  repeat' (first | refine go1 ?_ | refine blockK_else rfl ?_ | (refine wpC_cond fun A B hA hB => ?_; simp only [go_sem, reduceIte, Nat.reduceAdd, Nat.reduceEqDiff, Nat.reduceLT, Nat.reduceLeDiff, *, and_self, ]; first | (refine hA.out ?_; clear hA hB A B) | (refine hB.out ?_; clear hA hB A B) | (refine iteI (fun h => hA.out ?_) (fun h => hB.out ?_) <;> clear hA hB A B) | (refine iteI (fun h => hB.out ?_) (fun h => hA.out ?_) <;> clear hA hB A B)) | (refine wpO_cons fun K hK => ?_; simp only [go_sem, reduceIte, Nat.reduceAdd, Nat.reduceEqDiff, Nat.reduceLT, Nat.reduceLeDiff, *, and_self, ]; first | (refine hK.out _ _ ?_; clear hK K) | (refine iteI (fun h => hK.out _ _ ?_) (fun h => hK.out _ _ ?_) <;> clear hK K)))
  all_goals simp only [resultsR, resultsL, resultA, expK_int, expK_bool, expK_str, expK_agg, expK_own, expK_tsl, resK_some, go_sem, reduceIte, Nat.reduceAdd, Nat.reduceEqDiff, Nat.reduceLT, Nat.reduceLeDiff, and_self, ]
  all_goals simp [idOK, *]

theorem peopleM {w : AV} {ps : List Psn} (hw : SLs 3 (ps.map encP) w) (hl : ps.length < 9223372036854775807) (hn : ∀ p ∈ ps, p.name.size ≤ 1048576) : EvV CX 19 [w] (· = .int .i64 (pplF ps)) := by
  by_cases k1 : 40 < (ps.length : Int)
  · refine EvV.walk rfl fn19 rfl nt19 rfl ?_
    simp only [List.length_cons, List.length_nil, List.cons_append, List.nil_append, Nat.reduceAdd, Nat.reduceSub, List.replicate]
    repeat' (first | refine go1 ?_ | refine blockK_else rfl ?_ | (refine wpC_cond fun A B hA hB => ?_; simp only [go_sem, reduceIte, Nat.reduceAdd, Nat.reduceEqDiff, Nat.reduceLT, Nat.reduceLeDiff, *, and_self, lenK_sls hw, getElem?_len, getElem?_lenAdd, set_len, set_lenAdd, len_mid, ints_len, List.length_map, lt_mid, List.nil_append]; first | (refine hA.out ?_; clear hA hB A B) | (refine hB.out ?_; clear hA hB A B) | (refine iteI (fun h => hA.out ?_) (fun h => hB.out ?_) <;> clear hA hB A B) | (refine iteI (fun h => hB.out ?_) (fun h => hA.out ?_) <;> clear hA hB A B)) | (refine wpO_cons fun K hK => ?_; simp only [go_sem, reduceIte, Nat.reduceAdd, Nat.reduceEqDiff, Nat.reduceLT, Nat.reduceLeDiff, *, and_self, lenK_sls hw, getElem?_len, getElem?_lenAdd, set_len, set_lenAdd, len_mid, ints_len, List.length_map, lt_mid, List.nil_append]; first | (refine hK.out _ _ ?_; clear hK K) | (refine iteI (fun h => hK.out _ _ ?_) (fun h => hK.out _ _ ?_) <;> clear hK K)))
    simp only [resultsR, resultsL, resultA, expK_int, expK_bool, expK_str, expK_agg, expK_own, expK_tsl, resK_some, go_sem, reduceIte, Nat.reduceAdd, Nat.reduceEqDiff, Nat.reduceLT, Nat.reduceLeDiff, and_self, ]
    have : ¬ ps.length ≤ 40 := by omega
    simp [pplF, this]
  have l40 : ps.length ≤ 40 := by omega
  have hE : pplF ps = errPF [] ps := by rw [pplF, if_pos l40]
  rw [hE]
  clear hE
  refine EvV.walk rfl fn19 rfl nt19 rfl ?_
  simp only [List.length_cons, List.length_nil, List.cons_append, List.nil_append, Nat.reduceAdd, Nat.reduceSub, List.replicate]
  repeat' (first | refine go1 ?_ | refine blockK_else rfl ?_ | (refine wpC_cond fun A B hA hB => ?_; simp only [go_sem, reduceIte, Nat.reduceAdd, Nat.reduceEqDiff, Nat.reduceLT, Nat.reduceLeDiff, *, and_self, lenK_sls hw, getElem?_len, getElem?_lenAdd, set_len, set_lenAdd, len_mid, ints_len, List.length_map, lt_mid, List.nil_append]; first | (refine hA.out ?_; clear hA hB A B) | (refine hB.out ?_; clear hA hB A B) | (refine iteI (fun h => hA.out ?_) (fun h => hB.out ?_) <;> clear hA hB A B) | (refine iteI (fun h => hB.out ?_) (fun h => hA.out ?_) <;> clear hA hB A B)) | (refine wpO_cons fun K hK => ?_; simp only [go_sem, reduceIte, Nat.reduceAdd, Nat.reduceEqDiff, Nat.reduceLT, Nat.reduceLeDiff, *, and_self, lenK_sls hw, getElem?_len, getElem?_lenAdd, set_len, set_lenAdd, len_mid, ints_len, List.length_map, lt_mid, List.nil_append]; first | (refine hK.out _ _ ?_; clear hK K) | (refine iteI (fun h => hK.out _ _ ?_) (fun h => hK.out _ _ ?_) <;> clear hK K)))
  clear k1
  refine wpC_each [2, 3, 4, 11, 12, 13, 14, 15, 16, 17, 18, 19, 20, 21, 22, 23, 24, 25, 26, 27, 28, 29, 30, 31, 32, 33, 34, 35, 36, 37, 38, 39] 10 ps (fun pre post => errPF [] ps = errPF pre post) ?_ ?_ ?_ ?_
  · rfl
  · rfl
  · intro g G hE
    rw [hE]
    simp only [garbA_cons, garbA_nil, setL_cons, setL_nil, List.set_cons_zero, List.set_cons_succ]
    repeat' (first | refine go1 ?_ | refine blockK_else rfl ?_ | (refine wpC_cond fun A B hA hB => ?_; simp only [go_sem, reduceIte, Nat.reduceAdd, Nat.reduceEqDiff, Nat.reduceLT, Nat.reduceLeDiff, *, and_self, ints_len, List.length_map, Int.lt_irrefl, List.nil_append]; first | (refine hA.out ?_; clear hA hB A B) | (refine hB.out ?_; clear hA hB A B) | (refine iteI (fun h => hA.out ?_) (fun h => hB.out ?_) <;> clear hA hB A B) | (refine iteI (fun h => hB.out ?_) (fun h => hA.out ?_) <;> clear hA hB A B)) | (refine wpO_cons fun K hK => ?_; simp only [go_sem, reduceIte, Nat.reduceAdd, Nat.reduceEqDiff, Nat.reduceLT, Nat.reduceLeDiff, *, and_self, ints_len, List.length_map, Int.lt_irrefl, List.nil_append]; first | (refine hK.out _ _ ?_; clear hK K) | (refine iteI (fun h => hK.out _ _ ?_) (fun h => hK.out _ _ ?_) <;> clear hK K)))
    simp only [resultsR, resultsL, resultA, expK_int, expK_bool, expK_str, expK_agg, expK_own, expK_tsl, resK_some, go_sem, reduceIte, Nat.reduceAdd, Nat.reduceEqDiff, Nat.reduceLT, Nat.reduceLeDiff, and_self, ]
    rfl
  intro g G pre x post h1 hE
  have i0 := idx_sls hw (X := CX) ty24 ty27 rfl (n := pre.length) (row := encP x) (k := .i64) (by rw [h1]; exact map_mid encP pre x post)
  have lt1 : (pre.length : Int) < (ps.length : Int) := by rw [h1]; simp; omega
  have hpl : pre.length < ps.length := by rw [h1]; simp
  have w1 := wrap_succ (n := pre.length) (by omega)
  have qi := (identM x.id).rw
  have ql := (labelM x.name (hn x (by rw [h1]; simp))).rw
  have ho := ordP_cases hw hl h1
  have hh1 : Hold (ps = pre ++ x :: post) := ⟨h1⟩
  rw [hE, errPF]
  clear h1 hE
  simp only [garbA_cons, garbA_nil, setL_cons, setL_nil, List.set_cons_zero, List.set_cons_succ]
  cases k2 : idOK x.id with
  | false =>
    rw [k2] at qi
    have e : errP pre x = 2 := by rw [errP, k2]; rfl
    rw [e]
    clear ho ql e k2
    repeat' (first | refine go1 ?_ | refine blockK_else rfl ?_ | (refine wpC_cond fun A B hA hB => ?_; simp only [go_sem, reduceIte, Nat.reduceAdd, Nat.reduceEqDiff, Nat.reduceLT, Nat.reduceLeDiff, *, and_self, i0, w1, lt1, encP, snap_str, qi, getElem?_len, getElem?_lenAdd, set_len, set_lenAdd, len_mid, ints_len, List.length_map, lt_mid, List.nil_append]; first | (refine hA.out ?_; clear hA hB A B) | (refine hB.out ?_; clear hA hB A B) | (refine iteI (fun h => hA.out ?_) (fun h => hB.out ?_) <;> clear hA hB A B) | (refine iteI (fun h => hB.out ?_) (fun h => hA.out ?_) <;> clear hA hB A B)) | (refine wpO_cons fun K hK => ?_; simp only [go_sem, reduceIte, Nat.reduceAdd, Nat.reduceEqDiff, Nat.reduceLT, Nat.reduceLeDiff, *, and_self, i0, w1, lt1, encP, snap_str, qi, getElem?_len, getElem?_lenAdd, set_len, set_lenAdd, len_mid, ints_len, List.length_map, lt_mid, List.nil_append]; first | (refine hK.out _ _ ?_; clear hK K) | (refine iteI (fun h => hK.out _ _ ?_) (fun h => hK.out _ _ ?_) <;> clear hK K)))
    simp only [resultsR, resultsL, resultA, expK_int, expK_bool, expK_str, expK_agg, expK_own, expK_tsl, resK_some, go_sem, reduceIte, Nat.reduceAdd, Nat.reduceEqDiff, Nat.reduceLT, Nat.reduceLeDiff, and_self, ]
    rfl
  | true =>
    rw [k2] at qi
    rcases ho with ⟨o1, o2⟩ | ⟨o1, o2, o3, o4⟩ | ⟨o1, o2, o3, o4⟩
    · cases k3 : labU x.name.data.toList with
      | false =>
        rw [k3] at ql
        have e : errP pre x = 7 := by rw [errP, k2, o1, k3]; rfl
        rw [e]
        clear e k2 k3 o1
        repeat' (first | refine go1 ?_ | refine blockK_else rfl ?_ | (refine wpC_cond fun A B hA hB => ?_; simp only [go_sem, reduceIte, Nat.reduceAdd, Nat.reduceEqDiff, Nat.reduceLT, Nat.reduceLeDiff, *, and_self, i0, w1, lt1, encP, snap_str, qi, ql, getElem?_len, getElem?_lenAdd, set_len, set_lenAdd, len_mid, ints_len, List.length_map, lt_mid, List.nil_append]; first | (refine hA.out ?_; clear hA hB A B) | (refine hB.out ?_; clear hA hB A B) | (refine iteI (fun h => hA.out ?_) (fun h => hB.out ?_) <;> clear hA hB A B) | (refine iteI (fun h => hB.out ?_) (fun h => hA.out ?_) <;> clear hA hB A B)) | (refine wpO_cons fun K hK => ?_; simp only [go_sem, reduceIte, Nat.reduceAdd, Nat.reduceEqDiff, Nat.reduceLT, Nat.reduceLeDiff, *, and_self, i0, w1, lt1, encP, snap_str, qi, ql, getElem?_len, getElem?_lenAdd, set_len, set_lenAdd, len_mid, ints_len, List.length_map, lt_mid, List.nil_append]; first | (refine hK.out _ _ ?_; clear hK K) | (refine iteI (fun h => hK.out _ _ ?_) (fun h => hK.out _ _ ?_) <;> clear hK K)))
        simp only [resultsR, resultsL, resultA, expK_int, expK_bool, expK_str, expK_agg, expK_own, expK_tsl, resK_some, go_sem, reduceIte, Nat.reduceAdd, Nat.reduceEqDiff, Nat.reduceLT, Nat.reduceLeDiff, and_self, ]
        rfl
      | true =>
        rw [k3] at ql
        have e : errP pre x = 0 := by rw [errP, k2, o1, k3]; rfl
        rw [e]
        clear e k2 k3 o1
        repeat' (first | refine go1 ?_ | refine blockK_else rfl ?_ | (refine wpC_cond fun A B hA hB => ?_; simp only [go_sem, reduceIte, Nat.reduceAdd, Nat.reduceEqDiff, Nat.reduceLT, Nat.reduceLeDiff, *, and_self, i0, w1, lt1, encP, snap_str, qi, ql, getElem?_len, getElem?_lenAdd, set_len, set_lenAdd, len_mid, ints_len, List.length_map, lt_mid, List.nil_append]; first | (refine hA.out ?_; clear hA hB A B) | (refine hB.out ?_; clear hA hB A B) | (refine iteI (fun h => hA.out ?_) (fun h => hB.out ?_) <;> clear hA hB A B) | (refine iteI (fun h => hB.out ?_) (fun h => hA.out ?_) <;> clear hA hB A B)) | (refine wpO_cons fun K hK => ?_; simp only [go_sem, reduceIte, Nat.reduceAdd, Nat.reduceEqDiff, Nat.reduceLT, Nat.reduceLeDiff, *, and_self, i0, w1, lt1, encP, snap_str, qi, ql, getElem?_len, getElem?_lenAdd, set_len, set_lenAdd, len_mid, ints_len, List.length_map, lt_mid, List.nil_append]; first | (refine hK.out _ _ ?_; clear hK K) | (refine iteI (fun h => hK.out _ _ ?_) (fun h => hK.out _ _ ?_) <;> clear hK K)))
        refine each_next hh1.out ?_ ?_ ?_
        · rfl
        · ((try simp only [eraseA_cons, eraseA_nil, setL_cons, setL_nil, List.set_cons_zero, List.set_cons_succ]); all_goals (first | rfl | (simp only [len_snoc, ints_len, List.length_map, ]; done) | (simp only [len_snoc, len_mid, ints_len, List.length_map, List.length_append, List.length_cons, List.length_nil, Nat.zero_add, ]; done) | (simp only [len_mid, len_snoc, ints_len, List.length_map, List.length_append, List.length_cons, List.length_nil, Nat.zero_add, ]; rfl)))
        · first | exact ⟨[], (List.append_nil _).symm⟩ | exact ⟨_, rfl⟩ | (simp only [List.append_assoc, List.cons_append, List.nil_append]; exact ⟨_, rfl⟩)
    · cases k3 : labU x.name.data.toList with
      | false =>
        rw [k3] at ql
        have e : errP pre x = 7 := by rw [errP, k2, o1, k3]; rfl
        rw [e]
        clear e k2 k3 o1
        repeat' (first | refine go1 ?_ | refine blockK_else rfl ?_ | (refine wpC_cond fun A B hA hB => ?_; simp only [go_sem, reduceIte, Nat.reduceAdd, Nat.reduceEqDiff, Nat.reduceLT, Nat.reduceLeDiff, *, and_self, i0, w1, lt1, encP, snap_str, qi, ql, o4, getElem?_len, getElem?_lenAdd, set_len, set_lenAdd, len_mid, ints_len, List.length_map, lt_mid, List.nil_append]; first | (refine hA.out ?_; clear hA hB A B) | (refine hB.out ?_; clear hA hB A B) | (refine iteI (fun h => hA.out ?_) (fun h => hB.out ?_) <;> clear hA hB A B) | (refine iteI (fun h => hB.out ?_) (fun h => hA.out ?_) <;> clear hA hB A B)) | (refine wpO_cons fun K hK => ?_; simp only [go_sem, reduceIte, Nat.reduceAdd, Nat.reduceEqDiff, Nat.reduceLT, Nat.reduceLeDiff, *, and_self, i0, w1, lt1, encP, snap_str, qi, ql, o4, getElem?_len, getElem?_lenAdd, set_len, set_lenAdd, len_mid, ints_len, List.length_map, lt_mid, List.nil_append]; first | (refine hK.out _ _ ?_; clear hK K) | (refine iteI (fun h => hK.out _ _ ?_) (fun h => hK.out _ _ ?_) <;> clear hK K)))
        simp only [resultsR, resultsL, resultA, expK_int, expK_bool, expK_str, expK_agg, expK_own, expK_tsl, resK_some, go_sem, reduceIte, Nat.reduceAdd, Nat.reduceEqDiff, Nat.reduceLT, Nat.reduceLeDiff, and_self, ]
        rfl
      | true =>
        rw [k3] at ql
        have e : errP pre x = 0 := by rw [errP, k2, o1, k3]; rfl
        rw [e]
        clear e k2 k3 o1
        repeat' (first | refine go1 ?_ | refine blockK_else rfl ?_ | (refine wpC_cond fun A B hA hB => ?_; simp only [go_sem, reduceIte, Nat.reduceAdd, Nat.reduceEqDiff, Nat.reduceLT, Nat.reduceLeDiff, *, and_self, i0, w1, lt1, encP, snap_str, qi, ql, o4, getElem?_len, getElem?_lenAdd, set_len, set_lenAdd, len_mid, ints_len, List.length_map, lt_mid, List.nil_append]; first | (refine hA.out ?_; clear hA hB A B) | (refine hB.out ?_; clear hA hB A B) | (refine iteI (fun h => hA.out ?_) (fun h => hB.out ?_) <;> clear hA hB A B) | (refine iteI (fun h => hB.out ?_) (fun h => hA.out ?_) <;> clear hA hB A B)) | (refine wpO_cons fun K hK => ?_; simp only [go_sem, reduceIte, Nat.reduceAdd, Nat.reduceEqDiff, Nat.reduceLT, Nat.reduceLeDiff, *, and_self, i0, w1, lt1, encP, snap_str, qi, ql, o4, getElem?_len, getElem?_lenAdd, set_len, set_lenAdd, len_mid, ints_len, List.length_map, lt_mid, List.nil_append]; first | (refine hK.out _ _ ?_; clear hK K) | (refine iteI (fun h => hK.out _ _ ?_) (fun h => hK.out _ _ ?_) <;> clear hK K)))
        refine each_next hh1.out ?_ ?_ ?_
        · rfl
        · ((try simp only [eraseA_cons, eraseA_nil, setL_cons, setL_nil, List.set_cons_zero, List.set_cons_succ]); all_goals (first | rfl | (simp only [len_snoc, ints_len, List.length_map, ]; done) | (simp only [len_snoc, len_mid, ints_len, List.length_map, List.length_append, List.length_cons, List.length_nil, Nat.zero_add, ]; done) | (simp only [len_mid, len_snoc, ints_len, List.length_map, List.length_append, List.length_cons, List.length_nil, Nat.zero_add, ]; rfl)))
        · first | exact ⟨[], (List.append_nil _).symm⟩ | exact ⟨_, rfl⟩ | (simp only [List.append_assoc, List.cons_append, List.nil_append]; exact ⟨_, rfl⟩)
    · have e : errP pre x = 10 := by rw [errP, k2, o1]; rfl
      rw [e]
      clear e k2 o1
      repeat' (first | refine go1 ?_ | refine blockK_else rfl ?_ | (refine wpC_cond fun A B hA hB => ?_; simp only [go_sem, reduceIte, Nat.reduceAdd, Nat.reduceEqDiff, Nat.reduceLT, Nat.reduceLeDiff, *, and_self, i0, w1, lt1, encP, snap_str, qi, ql, o4, getElem?_len, getElem?_lenAdd, set_len, set_lenAdd, len_mid, ints_len, List.length_map, lt_mid, List.nil_append]; first | (refine hA.out ?_; clear hA hB A B) | (refine hB.out ?_; clear hA hB A B) | (refine iteI (fun h => hA.out ?_) (fun h => hB.out ?_) <;> clear hA hB A B) | (refine iteI (fun h => hB.out ?_) (fun h => hA.out ?_) <;> clear hA hB A B)) | (refine wpO_cons fun K hK => ?_; simp only [go_sem, reduceIte, Nat.reduceAdd, Nat.reduceEqDiff, Nat.reduceLT, Nat.reduceLeDiff, *, and_self, i0, w1, lt1, encP, snap_str, qi, ql, o4, getElem?_len, getElem?_lenAdd, set_len, set_lenAdd, len_mid, ints_len, List.length_map, lt_mid, List.nil_append]; first | (refine hK.out _ _ ?_; clear hK K) | (refine iteI (fun h => hK.out _ _ ?_) (fun h => hK.out _ _ ?_) <;> clear hK K)))
      simp only [resultsR, resultsL, resultA, expK_int, expK_bool, expK_str, expK_agg, expK_own, expK_tsl, resK_some, go_sem, reduceIte, Nat.reduceAdd, Nat.reduceEqDiff, Nat.reduceLT, Nat.reduceLeDiff, and_self, ]
      rfl

structure Rec where
  id : Int
  name : ByteArray
  len : Int
  day : Int
  sv : AV
  sp : List Int
def encRc (r : Rec) : List AV := [.int .i64 r.id, .str r.name, .int .i64 r.len, .int .i64 r.day, r.sv]
structure Rec.ok (r : Rec) : Prop where
  sv : SLs 1 (ints r.sp) r.sv
  st : r.sv.stab = true
def timeOK (r : Rec) : Bool := decide (1 ≤ r.len) && decide (r.len ≤ 86400000)
def dayOK (r : Rec) : Bool := decide (1 ≤ r.day) && decide (r.day ≤ 109573)
/-- What is wrong with the speakers. -/
def spkF (ps : List Psn) : List Int → List Int → Int
  | _, [] => 0
  | pre, x :: post => if (0 : Int) < (pre.length : Int) ∧ x ≤ pre.getLastD 0 then 10 else if isP ps x = true then spkF ps (pre ++ [x]) post else 9
/-- What is wrong with a recording. -/
def chkC (ps : List Psn) (r : Rec) : Int :=
  if idOK r.id = true then if nameL r.name.data.toList = true then if timeOK r = true then if dayOK r = true then if r.sp = [] then 1 else spkF ps [] r.sp else 2 else 12 else 7 else 2

theorem checkM {w : AV} {ps : List Psn} (hw : SLs 3 (ps.map encP) w) (hl : ps.length < 9223372036854775807) {r : Rec} (hr : r.ok) (hs : r.name.size ≤ 1048576) (hsl : r.sp.length < 9223372036854775807) :
    EvV CX 22 [w, .agg (encRc r)] (· = .int .i64 (chkC ps r)) := by
  have c1 := hr.sv.cell
  have hws := hw.snap
  have qi := (identM r.id).rw
  have qn := (nameM r.name hs).rw
  cases k1 : idOK r.id with
  | false =>
    rw [k1] at qi
    have e : chkC ps r = 2 := by rw [chkC, k1]; rfl
    rw [e]
    clear e k1
    refine EvV.walk rfl fn22 rfl nt22 rfl ?_
    simp only [List.length_cons, List.length_nil, List.cons_append, List.nil_append, Nat.reduceAdd, Nat.reduceSub, List.replicate]
    repeat' (first | refine go1 ?_ | refine blockK_else rfl ?_ | (refine wpC_cond fun A B hA hB => ?_; simp only [go_sem, reduceIte, Nat.reduceAdd, Nat.reduceEqDiff, Nat.reduceLT, Nat.reduceLeDiff, *, and_self, encP, encRc, c1, hws, snap_str, List.cons_append, Bool.not_true, Bool.not_false, adoptAB, qi, qn]; first | (refine hA.out ?_; clear hA hB A B) | (refine hB.out ?_; clear hA hB A B) | (refine iteI (fun h => hA.out ?_) (fun h => hB.out ?_) <;> clear hA hB A B) | (refine iteI (fun h => hB.out ?_) (fun h => hA.out ?_) <;> clear hA hB A B)) | (refine wpO_cons fun K hK => ?_; simp only [go_sem, reduceIte, Nat.reduceAdd, Nat.reduceEqDiff, Nat.reduceLT, Nat.reduceLeDiff, *, and_self, encP, encRc, c1, hws, snap_str, List.cons_append, Bool.not_true, Bool.not_false, adoptAB, qi, qn]; first | (refine hK.out _ _ ?_; clear hK K) | (refine iteI (fun h => hK.out _ _ ?_) (fun h => hK.out _ _ ?_) <;> clear hK K)))
    simp only [resultsR, resultsL, resultA, expK_int, expK_bool, expK_str, expK_agg, expK_own, expK_tsl, resK_some, go_sem, reduceIte, Nat.reduceAdd, Nat.reduceEqDiff, Nat.reduceLT, Nat.reduceLeDiff, and_self, ]
  | true =>
  rw [k1] at qi
  cases k2 : nameL r.name.data.toList with
  | false =>
    rw [k2] at qn
    have e : chkC ps r = 7 := by rw [chkC, k1, k2]; rfl
    rw [e]
    clear e k1 k2
    refine EvV.walk rfl fn22 rfl nt22 rfl ?_
    simp only [List.length_cons, List.length_nil, List.cons_append, List.nil_append, Nat.reduceAdd, Nat.reduceSub, List.replicate]
    repeat' (first | refine go1 ?_ | refine blockK_else rfl ?_ | (refine wpC_cond fun A B hA hB => ?_; simp only [go_sem, reduceIte, Nat.reduceAdd, Nat.reduceEqDiff, Nat.reduceLT, Nat.reduceLeDiff, *, and_self, encP, encRc, c1, hws, snap_str, List.cons_append, Bool.not_true, Bool.not_false, adoptAB, qi, qn]; first | (refine hA.out ?_; clear hA hB A B) | (refine hB.out ?_; clear hA hB A B) | (refine iteI (fun h => hA.out ?_) (fun h => hB.out ?_) <;> clear hA hB A B) | (refine iteI (fun h => hB.out ?_) (fun h => hA.out ?_) <;> clear hA hB A B)) | (refine wpO_cons fun K hK => ?_; simp only [go_sem, reduceIte, Nat.reduceAdd, Nat.reduceEqDiff, Nat.reduceLT, Nat.reduceLeDiff, *, and_self, encP, encRc, c1, hws, snap_str, List.cons_append, Bool.not_true, Bool.not_false, adoptAB, qi, qn]; first | (refine hK.out _ _ ?_; clear hK K) | (refine iteI (fun h => hK.out _ _ ?_) (fun h => hK.out _ _ ?_) <;> clear hK K)))
    simp only [resultsR, resultsL, resultA, expK_int, expK_bool, expK_str, expK_agg, expK_own, expK_tsl, resK_some, go_sem, reduceIte, Nat.reduceAdd, Nat.reduceEqDiff, Nat.reduceLT, Nat.reduceLeDiff, and_self, ]
  | true =>
  rw [k2] at qn
  by_cases t1 : r.len < 1
  · have e : chkC ps r = 12 := by rw [chkC, k1, k2]; simp [timeOK]; omega
    rw [e]
    clear e k1 k2
    refine EvV.walk rfl fn22 rfl nt22 rfl ?_
    simp only [List.length_cons, List.length_nil, List.cons_append, List.nil_append, Nat.reduceAdd, Nat.reduceSub, List.replicate]
    repeat' (first | refine go1 ?_ | refine blockK_else rfl ?_ | (refine wpC_cond fun A B hA hB => ?_; simp only [go_sem, reduceIte, Nat.reduceAdd, Nat.reduceEqDiff, Nat.reduceLT, Nat.reduceLeDiff, *, and_self, encP, encRc, c1, hws, snap_str, List.cons_append, Bool.not_true, Bool.not_false, adoptAB, qi, qn]; first | (refine hA.out ?_; clear hA hB A B) | (refine hB.out ?_; clear hA hB A B) | (refine iteI (fun h => hA.out ?_) (fun h => hB.out ?_) <;> clear hA hB A B) | (refine iteI (fun h => hB.out ?_) (fun h => hA.out ?_) <;> clear hA hB A B)) | (refine wpO_cons fun K hK => ?_; simp only [go_sem, reduceIte, Nat.reduceAdd, Nat.reduceEqDiff, Nat.reduceLT, Nat.reduceLeDiff, *, and_self, encP, encRc, c1, hws, snap_str, List.cons_append, Bool.not_true, Bool.not_false, adoptAB, qi, qn]; first | (refine hK.out _ _ ?_; clear hK K) | (refine iteI (fun h => hK.out _ _ ?_) (fun h => hK.out _ _ ?_) <;> clear hK K)))
    simp only [resultsR, resultsL, resultA, expK_int, expK_bool, expK_str, expK_agg, expK_own, expK_tsl, resK_some, go_sem, reduceIte, Nat.reduceAdd, Nat.reduceEqDiff, Nat.reduceLT, Nat.reduceLeDiff, and_self, ]
  by_cases t2 : 86400000 < r.len
  · have e : chkC ps r = 12 := by rw [chkC, k1, k2]; simp [timeOK]; omega
    rw [e]
    clear e k1 k2
    refine EvV.walk rfl fn22 rfl nt22 rfl ?_
    simp only [List.length_cons, List.length_nil, List.cons_append, List.nil_append, Nat.reduceAdd, Nat.reduceSub, List.replicate]
    repeat' (first | refine go1 ?_ | refine blockK_else rfl ?_ | (refine wpC_cond fun A B hA hB => ?_; simp only [go_sem, reduceIte, Nat.reduceAdd, Nat.reduceEqDiff, Nat.reduceLT, Nat.reduceLeDiff, *, and_self, encP, encRc, c1, hws, snap_str, List.cons_append, Bool.not_true, Bool.not_false, adoptAB, qi, qn]; first | (refine hA.out ?_; clear hA hB A B) | (refine hB.out ?_; clear hA hB A B) | (refine iteI (fun h => hA.out ?_) (fun h => hB.out ?_) <;> clear hA hB A B) | (refine iteI (fun h => hB.out ?_) (fun h => hA.out ?_) <;> clear hA hB A B)) | (refine wpO_cons fun K hK => ?_; simp only [go_sem, reduceIte, Nat.reduceAdd, Nat.reduceEqDiff, Nat.reduceLT, Nat.reduceLeDiff, *, and_self, encP, encRc, c1, hws, snap_str, List.cons_append, Bool.not_true, Bool.not_false, adoptAB, qi, qn]; first | (refine hK.out _ _ ?_; clear hK K) | (refine iteI (fun h => hK.out _ _ ?_) (fun h => hK.out _ _ ?_) <;> clear hK K)))
    simp only [resultsR, resultsL, resultA, expK_int, expK_bool, expK_str, expK_agg, expK_own, expK_tsl, resK_some, go_sem, reduceIte, Nat.reduceAdd, Nat.reduceEqDiff, Nat.reduceLT, Nat.reduceLeDiff, and_self, ]
  have kt : timeOK r = true := by simp [timeOK]; omega
  by_cases d1 : r.day < 1
  · have e : chkC ps r = 2 := by rw [chkC, k1, k2, kt]; simp [dayOK]; omega
    rw [e]
    clear e k1 k2 kt
    refine EvV.walk rfl fn22 rfl nt22 rfl ?_
    simp only [List.length_cons, List.length_nil, List.cons_append, List.nil_append, Nat.reduceAdd, Nat.reduceSub, List.replicate]
    repeat' (first | refine go1 ?_ | refine blockK_else rfl ?_ | (refine wpC_cond fun A B hA hB => ?_; simp only [go_sem, reduceIte, Nat.reduceAdd, Nat.reduceEqDiff, Nat.reduceLT, Nat.reduceLeDiff, *, and_self, encP, encRc, c1, hws, snap_str, List.cons_append, Bool.not_true, Bool.not_false, adoptAB, qi, qn]; first | (refine hA.out ?_; clear hA hB A B) | (refine hB.out ?_; clear hA hB A B) | (refine iteI (fun h => hA.out ?_) (fun h => hB.out ?_) <;> clear hA hB A B) | (refine iteI (fun h => hB.out ?_) (fun h => hA.out ?_) <;> clear hA hB A B)) | (refine wpO_cons fun K hK => ?_; simp only [go_sem, reduceIte, Nat.reduceAdd, Nat.reduceEqDiff, Nat.reduceLT, Nat.reduceLeDiff, *, and_self, encP, encRc, c1, hws, snap_str, List.cons_append, Bool.not_true, Bool.not_false, adoptAB, qi, qn]; first | (refine hK.out _ _ ?_; clear hK K) | (refine iteI (fun h => hK.out _ _ ?_) (fun h => hK.out _ _ ?_) <;> clear hK K)))
    simp only [resultsR, resultsL, resultA, expK_int, expK_bool, expK_str, expK_agg, expK_own, expK_tsl, resK_some, go_sem, reduceIte, Nat.reduceAdd, Nat.reduceEqDiff, Nat.reduceLT, Nat.reduceLeDiff, and_self, ]
  by_cases d2 : 109573 < r.day
  · have e : chkC ps r = 2 := by rw [chkC, k1, k2, kt]; simp [dayOK]; omega
    rw [e]
    clear e k1 k2 kt
    refine EvV.walk rfl fn22 rfl nt22 rfl ?_
    simp only [List.length_cons, List.length_nil, List.cons_append, List.nil_append, Nat.reduceAdd, Nat.reduceSub, List.replicate]
    repeat' (first | refine go1 ?_ | refine blockK_else rfl ?_ | (refine wpC_cond fun A B hA hB => ?_; simp only [go_sem, reduceIte, Nat.reduceAdd, Nat.reduceEqDiff, Nat.reduceLT, Nat.reduceLeDiff, *, and_self, encP, encRc, c1, hws, snap_str, List.cons_append, Bool.not_true, Bool.not_false, adoptAB, qi, qn]; first | (refine hA.out ?_; clear hA hB A B) | (refine hB.out ?_; clear hA hB A B) | (refine iteI (fun h => hA.out ?_) (fun h => hB.out ?_) <;> clear hA hB A B) | (refine iteI (fun h => hB.out ?_) (fun h => hA.out ?_) <;> clear hA hB A B)) | (refine wpO_cons fun K hK => ?_; simp only [go_sem, reduceIte, Nat.reduceAdd, Nat.reduceEqDiff, Nat.reduceLT, Nat.reduceLeDiff, *, and_self, encP, encRc, c1, hws, snap_str, List.cons_append, Bool.not_true, Bool.not_false, adoptAB, qi, qn]; first | (refine hK.out _ _ ?_; clear hK K) | (refine iteI (fun h => hK.out _ _ ?_) (fun h => hK.out _ _ ?_) <;> clear hK K)))
    simp only [resultsR, resultsL, resultA, expK_int, expK_bool, expK_str, expK_agg, expK_own, expK_tsl, resK_some, go_sem, reduceIte, Nat.reduceAdd, Nat.reduceEqDiff, Nat.reduceLT, Nat.reduceLeDiff, and_self, ]
  have kd : dayOK r = true := by simp [dayOK]; omega
  by_cases k3 : r.sp = []
  · have e : chkC ps r = 1 := by rw [chkC, k1, k2, kt, kd, if_pos k3]; rfl
    have z : ((r.sp.length : Int) == 0) = true := by rw [k3]; rfl
    rw [e]
    clear e k1 k2 kt kd k3
    refine EvV.walk rfl fn22 rfl nt22 rfl ?_
    simp only [List.length_cons, List.length_nil, List.cons_append, List.nil_append, Nat.reduceAdd, Nat.reduceSub, List.replicate]
    repeat' (first | refine go1 ?_ | refine blockK_else rfl ?_ | (refine wpC_cond fun A B hA hB => ?_; simp only [go_sem, reduceIte, Nat.reduceAdd, Nat.reduceEqDiff, Nat.reduceLT, Nat.reduceLeDiff, *, and_self, encP, encRc, c1, hws, snap_str, List.cons_append, Bool.not_true, Bool.not_false, adoptAB, qi, qn, lenK_sls hr.sv, ints_len]; first | (refine hA.out ?_; clear hA hB A B) | (refine hB.out ?_; clear hA hB A B) | (refine iteI (fun h => hA.out ?_) (fun h => hB.out ?_) <;> clear hA hB A B) | (refine iteI (fun h => hB.out ?_) (fun h => hA.out ?_) <;> clear hA hB A B)) | (refine wpO_cons fun K hK => ?_; simp only [go_sem, reduceIte, Nat.reduceAdd, Nat.reduceEqDiff, Nat.reduceLT, Nat.reduceLeDiff, *, and_self, encP, encRc, c1, hws, snap_str, List.cons_append, Bool.not_true, Bool.not_false, adoptAB, qi, qn, lenK_sls hr.sv, ints_len]; first | (refine hK.out _ _ ?_; clear hK K) | (refine iteI (fun h => hK.out _ _ ?_) (fun h => hK.out _ _ ?_) <;> clear hK K)))
    simp only [resultsR, resultsL, resultA, expK_int, expK_bool, expK_str, expK_agg, expK_own, expK_tsl, resK_some, go_sem, reduceIte, Nat.reduceAdd, Nat.reduceEqDiff, Nat.reduceLT, Nat.reduceLeDiff, and_self, ]
  have e : chkC ps r = spkF ps [] r.sp := by rw [chkC, k1, k2, kt, kd, if_neg k3]; rfl
  have z : ((r.sp.length : Int) == 0) = false := by simp [k3]
  rw [e]
  clear e k1 k2 kt kd k3
  refine EvV.walk rfl fn22 rfl nt22 rfl ?_
  simp only [List.length_cons, List.length_nil, List.cons_append, List.nil_append, Nat.reduceAdd, Nat.reduceSub, List.replicate]
  repeat' (first | refine go1 ?_ | refine blockK_else rfl ?_ | (refine wpC_cond fun A B hA hB => ?_; simp only [go_sem, reduceIte, Nat.reduceAdd, Nat.reduceEqDiff, Nat.reduceLT, Nat.reduceLeDiff, *, and_self, encP, encRc, c1, hws, snap_str, List.cons_append, Bool.not_true, Bool.not_false, adoptAB, qi, qn, lenK_sls hr.sv, ints_len]; first | (refine hA.out ?_; clear hA hB A B) | (refine hB.out ?_; clear hA hB A B) | (refine iteI (fun h => hA.out ?_) (fun h => hB.out ?_) <;> clear hA hB A B) | (refine iteI (fun h => hB.out ?_) (fun h => hA.out ?_) <;> clear hA hB A B)) | (refine wpO_cons fun K hK => ?_; simp only [go_sem, reduceIte, Nat.reduceAdd, Nat.reduceEqDiff, Nat.reduceLT, Nat.reduceLeDiff, *, and_self, encP, encRc, c1, hws, snap_str, List.cons_append, Bool.not_true, Bool.not_false, adoptAB, qi, qn, lenK_sls hr.sv, ints_len]; first | (refine hK.out _ _ ?_; clear hK K) | (refine iteI (fun h => hK.out _ _ ?_) (fun h => hK.out _ _ ?_) <;> clear hK K)))
  refine wpC_each [4, 5, 6, 7, 8, 46, 47, 48, 49, 50, 51, 52, 53, 54, 55, 56, 57, 58, 59, 60, 61, 62, 63, 64, 65, 66, 67, 68, 69, 70] 45 r.sp (fun pre post => spkF ps [] r.sp = spkF ps pre post) ?_ ?_ ?_ ?_
  · rfl
  · ((try simp only [eraseA_cons, eraseA_nil, setL_cons, setL_nil, List.set_cons_zero, List.set_cons_succ]); all_goals (first | rfl | (simp only [len_snoc, ints_len, List.length_map, ]; done) | (simp only [len_snoc, len_mid, ints_len, List.length_map, List.length_append, List.length_cons, List.length_nil, Nat.zero_add, ]; done) | (simp only [len_mid, len_snoc, ints_len, List.length_map, List.length_append, List.length_cons, List.length_nil, Nat.zero_add, ]; rfl)))
  · intro g G hE
    rw [hE]
    simp only [garbA_cons, garbA_nil, setL_cons, setL_nil, List.set_cons_zero, List.set_cons_succ]
    repeat' (first | refine go1 ?_ | refine blockK_else rfl ?_ | (refine wpC_cond fun A B hA hB => ?_; simp only [go_sem, reduceIte, Nat.reduceAdd, Nat.reduceEqDiff, Nat.reduceLT, Nat.reduceLeDiff, *, and_self, ints_len, List.length_map, Int.lt_irrefl, List.nil_append]; first | (refine hA.out ?_; clear hA hB A B) | (refine hB.out ?_; clear hA hB A B) | (refine iteI (fun h => hA.out ?_) (fun h => hB.out ?_) <;> clear hA hB A B) | (refine iteI (fun h => hB.out ?_) (fun h => hA.out ?_) <;> clear hA hB A B)) | (refine wpO_cons fun K hK => ?_; simp only [go_sem, reduceIte, Nat.reduceAdd, Nat.reduceEqDiff, Nat.reduceLT, Nat.reduceLeDiff, *, and_self, ints_len, List.length_map, Int.lt_irrefl, List.nil_append]; first | (refine hK.out _ _ ?_; clear hK K) | (refine iteI (fun h => hK.out _ _ ?_) (fun h => hK.out _ _ ?_) <;> clear hK K)))
    simp only [resultsR, resultsL, resultA, expK_int, expK_bool, expK_str, expK_agg, expK_own, expK_tsl, resK_some, go_sem, reduceIte, Nat.reduceAdd, Nat.reduceEqDiff, Nat.reduceLT, Nat.reduceLeDiff, and_self, ]
    rfl
  intro g G pre x post h1 hE
  have i1 := idx_sls hr.sv (X := CX) ty33 ty3 rfl (by rw [h1]; exact ints_mid pre x post) (k := .i64)
  have i2 := prev_ints (v := r.sv) (pre := pre) (x := x) (post := post) (by rw [← h1]; exact hr.sv) (by rw [← h1]; exact hsl) (X := CX) ty33 ty3 rfl (k := .i64)
  have lt1 : (pre.length : Int) < (r.sp.length : Int) := by rw [h1]; simp; omega
  have w1 := wrap_succ (n := pre.length) (by omega)
  have q := (personE w ps x hw hl).rw
  have hh1 : Hold (r.sp = pre ++ x :: post) := ⟨h1⟩
  rw [hE, spkF]
  clear h1 hE
  simp only [garbA_cons, garbA_nil, setL_cons, setL_nil, List.set_cons_zero, List.set_cons_succ]
  by_cases o : (0 : Int) < (pre.length : Int) ∧ x ≤ pre.getLastD 0
  · rw [if_pos o]
    obtain ⟨o1, o2⟩ := o
    have i2 := i2 o1
    repeat' (first | refine go1 ?_ | refine blockK_else rfl ?_ | (refine wpC_cond fun A B hA hB => ?_; simp only [go_sem, reduceIte, Nat.reduceAdd, Nat.reduceEqDiff, Nat.reduceLT, Nat.reduceLeDiff, *, and_self, encP, encRc, c1, hws, snap_str, List.cons_append, Bool.not_true, Bool.not_false, adoptAB, qi, qn, i1, i2, w1, q, getElem?_len, getElem?_lenAdd, set_len, set_lenAdd, len_mid, ints_len, List.length_map, lt_mid, List.nil_append]; first | (refine hA.out ?_; clear hA hB A B) | (refine hB.out ?_; clear hA hB A B) | (refine iteI (fun h => hA.out ?_) (fun h => hB.out ?_) <;> clear hA hB A B) | (refine iteI (fun h => hB.out ?_) (fun h => hA.out ?_) <;> clear hA hB A B)) | (refine wpO_cons fun K hK => ?_; simp only [go_sem, reduceIte, Nat.reduceAdd, Nat.reduceEqDiff, Nat.reduceLT, Nat.reduceLeDiff, *, and_self, encP, encRc, c1, hws, snap_str, List.cons_append, Bool.not_true, Bool.not_false, adoptAB, qi, qn, i1, i2, w1, q, getElem?_len, getElem?_lenAdd, set_len, set_lenAdd, len_mid, ints_len, List.length_map, lt_mid, List.nil_append]; first | (refine hK.out _ _ ?_; clear hK K) | (refine iteI (fun h => hK.out _ _ ?_) (fun h => hK.out _ _ ?_) <;> clear hK K)))
    simp only [resultsR, resultsL, resultA, expK_int, expK_bool, expK_str, expK_agg, expK_own, expK_tsl, resK_some, go_sem, reduceIte, Nat.reduceAdd, Nat.reduceEqDiff, Nat.reduceLT, Nat.reduceLeDiff, and_self, ]
  · rw [if_neg o]
    have hx : (¬ (0 : Int) < (pre.length : Int)) ∨ ((0 : Int) < (pre.length : Int) ∧ ¬ x ≤ pre.getLastD 0) := by omega
    clear o
    rcases hx with o1 | ⟨o1, o2⟩
    · clear i2
      cases k : isP ps x with
      | true =>
        rw [k] at q
        rw [if_pos rfl]
        clear k
        repeat' (first | refine go1 ?_ | refine blockK_else rfl ?_ | (refine wpC_cond fun A B hA hB => ?_; simp only [go_sem, reduceIte, Nat.reduceAdd, Nat.reduceEqDiff, Nat.reduceLT, Nat.reduceLeDiff, *, and_self, encP, encRc, c1, hws, snap_str, List.cons_append, Bool.not_true, Bool.not_false, adoptAB, qi, qn, i1, w1, q, getElem?_len, getElem?_lenAdd, set_len, set_lenAdd, len_mid, ints_len, List.length_map, lt_mid, List.nil_append]; first | (refine hA.out ?_; clear hA hB A B) | (refine hB.out ?_; clear hA hB A B) | (refine iteI (fun h => hA.out ?_) (fun h => hB.out ?_) <;> clear hA hB A B) | (refine iteI (fun h => hB.out ?_) (fun h => hA.out ?_) <;> clear hA hB A B)) | (refine wpO_cons fun K hK => ?_; simp only [go_sem, reduceIte, Nat.reduceAdd, Nat.reduceEqDiff, Nat.reduceLT, Nat.reduceLeDiff, *, and_self, encP, encRc, c1, hws, snap_str, List.cons_append, Bool.not_true, Bool.not_false, adoptAB, qi, qn, i1, w1, q, getElem?_len, getElem?_lenAdd, set_len, set_lenAdd, len_mid, ints_len, List.length_map, lt_mid, List.nil_append]; first | (refine hK.out _ _ ?_; clear hK K) | (refine iteI (fun h => hK.out _ _ ?_) (fun h => hK.out _ _ ?_) <;> clear hK K)))
        refine each_next hh1.out rfl ?_ ?_
        · ((try simp only [eraseA_cons, eraseA_nil, setL_cons, setL_nil, List.set_cons_zero, List.set_cons_succ]); all_goals (first | rfl | (simp only [len_snoc, ints_len, List.length_map, ]; done) | (simp only [len_snoc, len_mid, ints_len, List.length_map, List.length_append, List.length_cons, List.length_nil, Nat.zero_add, ]; done) | (simp only [len_mid, len_snoc, ints_len, List.length_map, List.length_append, List.length_cons, List.length_nil, Nat.zero_add, ]; rfl)))
        · first | exact ⟨[], (List.append_nil _).symm⟩ | exact ⟨_, rfl⟩ | (simp only [List.append_assoc, List.cons_append, List.nil_append]; exact ⟨_, rfl⟩)
      | false =>
        rw [k] at q
        rw [if_neg (by simp)]
        clear k
        repeat' (first | refine go1 ?_ | refine blockK_else rfl ?_ | (refine wpC_cond fun A B hA hB => ?_; simp only [go_sem, reduceIte, Nat.reduceAdd, Nat.reduceEqDiff, Nat.reduceLT, Nat.reduceLeDiff, *, and_self, encP, encRc, c1, hws, snap_str, List.cons_append, Bool.not_true, Bool.not_false, adoptAB, qi, qn, i1, w1, q, getElem?_len, getElem?_lenAdd, set_len, set_lenAdd, len_mid, ints_len, List.length_map, lt_mid, List.nil_append]; first | (refine hA.out ?_; clear hA hB A B) | (refine hB.out ?_; clear hA hB A B) | (refine iteI (fun h => hA.out ?_) (fun h => hB.out ?_) <;> clear hA hB A B) | (refine iteI (fun h => hB.out ?_) (fun h => hA.out ?_) <;> clear hA hB A B)) | (refine wpO_cons fun K hK => ?_; simp only [go_sem, reduceIte, Nat.reduceAdd, Nat.reduceEqDiff, Nat.reduceLT, Nat.reduceLeDiff, *, and_self, encP, encRc, c1, hws, snap_str, List.cons_append, Bool.not_true, Bool.not_false, adoptAB, qi, qn, i1, w1, q, getElem?_len, getElem?_lenAdd, set_len, set_lenAdd, len_mid, ints_len, List.length_map, lt_mid, List.nil_append]; first | (refine hK.out _ _ ?_; clear hK K) | (refine iteI (fun h => hK.out _ _ ?_) (fun h => hK.out _ _ ?_) <;> clear hK K)))
        simp only [resultsR, resultsL, resultA, expK_int, expK_bool, expK_str, expK_agg, expK_own, expK_tsl, resK_some, go_sem, reduceIte, Nat.reduceAdd, Nat.reduceEqDiff, Nat.reduceLT, Nat.reduceLeDiff, and_self, ]
    · have i2 := i2 o1
      cases k : isP ps x with
      | true =>
        rw [k] at q
        rw [if_pos rfl]
        clear k
        repeat' (first | refine go1 ?_ | refine blockK_else rfl ?_ | (refine wpC_cond fun A B hA hB => ?_; simp only [go_sem, reduceIte, Nat.reduceAdd, Nat.reduceEqDiff, Nat.reduceLT, Nat.reduceLeDiff, *, and_self, encP, encRc, c1, hws, snap_str, List.cons_append, Bool.not_true, Bool.not_false, adoptAB, qi, qn, i1, i2, w1, q, getElem?_len, getElem?_lenAdd, set_len, set_lenAdd, len_mid, ints_len, List.length_map, lt_mid, List.nil_append]; first | (refine hA.out ?_; clear hA hB A B) | (refine hB.out ?_; clear hA hB A B) | (refine iteI (fun h => hA.out ?_) (fun h => hB.out ?_) <;> clear hA hB A B) | (refine iteI (fun h => hB.out ?_) (fun h => hA.out ?_) <;> clear hA hB A B)) | (refine wpO_cons fun K hK => ?_; simp only [go_sem, reduceIte, Nat.reduceAdd, Nat.reduceEqDiff, Nat.reduceLT, Nat.reduceLeDiff, *, and_self, encP, encRc, c1, hws, snap_str, List.cons_append, Bool.not_true, Bool.not_false, adoptAB, qi, qn, i1, i2, w1, q, getElem?_len, getElem?_lenAdd, set_len, set_lenAdd, len_mid, ints_len, List.length_map, lt_mid, List.nil_append]; first | (refine hK.out _ _ ?_; clear hK K) | (refine iteI (fun h => hK.out _ _ ?_) (fun h => hK.out _ _ ?_) <;> clear hK K)))
        refine each_next hh1.out rfl ?_ ?_
        · ((try simp only [eraseA_cons, eraseA_nil, setL_cons, setL_nil, List.set_cons_zero, List.set_cons_succ]); all_goals (first | rfl | (simp only [len_snoc, ints_len, List.length_map, ]; done) | (simp only [len_snoc, len_mid, ints_len, List.length_map, List.length_append, List.length_cons, List.length_nil, Nat.zero_add, ]; done) | (simp only [len_mid, len_snoc, ints_len, List.length_map, List.length_append, List.length_cons, List.length_nil, Nat.zero_add, ]; rfl)))
        · first | exact ⟨[], (List.append_nil _).symm⟩ | exact ⟨_, rfl⟩ | (simp only [List.append_assoc, List.cons_append, List.nil_append]; exact ⟨_, rfl⟩)
      | false =>
        rw [k] at q
        rw [if_neg (by simp)]
        clear k
        repeat' (first | refine go1 ?_ | refine blockK_else rfl ?_ | (refine wpC_cond fun A B hA hB => ?_; simp only [go_sem, reduceIte, Nat.reduceAdd, Nat.reduceEqDiff, Nat.reduceLT, Nat.reduceLeDiff, *, and_self, encP, encRc, c1, hws, snap_str, List.cons_append, Bool.not_true, Bool.not_false, adoptAB, qi, qn, i1, i2, w1, q, getElem?_len, getElem?_lenAdd, set_len, set_lenAdd, len_mid, ints_len, List.length_map, lt_mid, List.nil_append]; first | (refine hA.out ?_; clear hA hB A B) | (refine hB.out ?_; clear hA hB A B) | (refine iteI (fun h => hA.out ?_) (fun h => hB.out ?_) <;> clear hA hB A B) | (refine iteI (fun h => hB.out ?_) (fun h => hA.out ?_) <;> clear hA hB A B)) | (refine wpO_cons fun K hK => ?_; simp only [go_sem, reduceIte, Nat.reduceAdd, Nat.reduceEqDiff, Nat.reduceLT, Nat.reduceLeDiff, *, and_self, encP, encRc, c1, hws, snap_str, List.cons_append, Bool.not_true, Bool.not_false, adoptAB, qi, qn, i1, i2, w1, q, getElem?_len, getElem?_lenAdd, set_len, set_lenAdd, len_mid, ints_len, List.length_map, lt_mid, List.nil_append]; first | (refine hK.out _ _ ?_; clear hK K) | (refine iteI (fun h => hK.out _ _ ?_) (fun h => hK.out _ _ ?_) <;> clear hK K)))
        simp only [resultsR, resultsL, resultA, expK_int, expK_bool, expK_str, expK_agg, expK_own, expK_tsl, resK_some, go_sem, reduceIte, Nat.reduceAdd, Nat.reduceEqDiff, Nat.reduceLT, Nat.reduceLeDiff, and_self, ]

theorem checkRr {w : AV} {ps : List Psn} (hw : SLs 3 (ps.map encP) w) (hl : ps.length < 9223372036854775807) {r : Rec} (hr : r.ok) (hs : r.name.size ≤ 1048576) (hsl : r.sp.length < 9223372036854775807) :
    EvV CX 23 [w, .agg (encRc r)] (· = .int .i64 (chkC ps r)) := by
  have c1 := hr.sv.cell
  have hws := hw.snap
  have qi := (identR r.id).rw
  have qn := (nameR r.name hs).rw
  cases k1 : idOK r.id with
  | false =>
    rw [k1] at qi
    have e : chkC ps r = 2 := by rw [chkC, k1]; rfl
    rw [e]
    clear e k1
    refine EvV.walk rfl fn23 rfl nt23 rfl ?_
    simp only [List.length_cons, List.length_nil, List.cons_append, List.nil_append, Nat.reduceAdd, Nat.reduceSub, List.replicate]
    repeat' (first | refine go1 ?_ | refine blockK_else rfl ?_ | (refine wpC_cond fun A B hA hB => ?_; simp only [go_sem, reduceIte, Nat.reduceAdd, Nat.reduceEqDiff, Nat.reduceLT, Nat.reduceLeDiff, *, and_self, encP, encRc, c1, hws, snap_str, List.cons_append, Bool.not_true, Bool.not_false, adoptAB, qi, qn]; first | (refine hA.out ?_; clear hA hB A B) | (refine hB.out ?_; clear hA hB A B) | (refine iteI (fun h => hA.out ?_) (fun h => hB.out ?_) <;> clear hA hB A B) | (refine iteI (fun h => hB.out ?_) (fun h => hA.out ?_) <;> clear hA hB A B)) | (refine wpO_cons fun K hK => ?_; simp only [go_sem, reduceIte, Nat.reduceAdd, Nat.reduceEqDiff, Nat.reduceLT, Nat.reduceLeDiff, *, and_self, encP, encRc, c1, hws, snap_str, List.cons_append, Bool.not_true, Bool.not_false, adoptAB, qi, qn]; first | (refine hK.out _ _ ?_; clear hK K) | (refine iteI (fun h => hK.out _ _ ?_) (fun h => hK.out _ _ ?_) <;> clear hK K)))
    simp only [resultsR, resultsL, resultA, expK_int, expK_bool, expK_str, expK_agg, expK_own, expK_tsl, resK_some, go_sem, reduceIte, Nat.reduceAdd, Nat.reduceEqDiff, Nat.reduceLT, Nat.reduceLeDiff, and_self, ]
  | true =>
  rw [k1] at qi
  cases k2 : nameL r.name.data.toList with
  | false =>
    rw [k2] at qn
    have e : chkC ps r = 7 := by rw [chkC, k1, k2]; rfl
    rw [e]
    clear e k1 k2
    refine EvV.walk rfl fn23 rfl nt23 rfl ?_
    simp only [List.length_cons, List.length_nil, List.cons_append, List.nil_append, Nat.reduceAdd, Nat.reduceSub, List.replicate]
    repeat' (first | refine go1 ?_ | refine blockK_else rfl ?_ | (refine wpC_cond fun A B hA hB => ?_; simp only [go_sem, reduceIte, Nat.reduceAdd, Nat.reduceEqDiff, Nat.reduceLT, Nat.reduceLeDiff, *, and_self, encP, encRc, c1, hws, snap_str, List.cons_append, Bool.not_true, Bool.not_false, adoptAB, qi, qn]; first | (refine hA.out ?_; clear hA hB A B) | (refine hB.out ?_; clear hA hB A B) | (refine iteI (fun h => hA.out ?_) (fun h => hB.out ?_) <;> clear hA hB A B) | (refine iteI (fun h => hB.out ?_) (fun h => hA.out ?_) <;> clear hA hB A B)) | (refine wpO_cons fun K hK => ?_; simp only [go_sem, reduceIte, Nat.reduceAdd, Nat.reduceEqDiff, Nat.reduceLT, Nat.reduceLeDiff, *, and_self, encP, encRc, c1, hws, snap_str, List.cons_append, Bool.not_true, Bool.not_false, adoptAB, qi, qn]; first | (refine hK.out _ _ ?_; clear hK K) | (refine iteI (fun h => hK.out _ _ ?_) (fun h => hK.out _ _ ?_) <;> clear hK K)))
    simp only [resultsR, resultsL, resultA, expK_int, expK_bool, expK_str, expK_agg, expK_own, expK_tsl, resK_some, go_sem, reduceIte, Nat.reduceAdd, Nat.reduceEqDiff, Nat.reduceLT, Nat.reduceLeDiff, and_self, ]
  | true =>
  rw [k2] at qn
  by_cases t1 : r.len < 1
  · have e : chkC ps r = 12 := by rw [chkC, k1, k2]; simp [timeOK]; omega
    rw [e]
    clear e k1 k2
    refine EvV.walk rfl fn23 rfl nt23 rfl ?_
    simp only [List.length_cons, List.length_nil, List.cons_append, List.nil_append, Nat.reduceAdd, Nat.reduceSub, List.replicate]
    repeat' (first | refine go1 ?_ | refine blockK_else rfl ?_ | (refine wpC_cond fun A B hA hB => ?_; simp only [go_sem, reduceIte, Nat.reduceAdd, Nat.reduceEqDiff, Nat.reduceLT, Nat.reduceLeDiff, *, and_self, encP, encRc, c1, hws, snap_str, List.cons_append, Bool.not_true, Bool.not_false, adoptAB, qi, qn]; first | (refine hA.out ?_; clear hA hB A B) | (refine hB.out ?_; clear hA hB A B) | (refine iteI (fun h => hA.out ?_) (fun h => hB.out ?_) <;> clear hA hB A B) | (refine iteI (fun h => hB.out ?_) (fun h => hA.out ?_) <;> clear hA hB A B)) | (refine wpO_cons fun K hK => ?_; simp only [go_sem, reduceIte, Nat.reduceAdd, Nat.reduceEqDiff, Nat.reduceLT, Nat.reduceLeDiff, *, and_self, encP, encRc, c1, hws, snap_str, List.cons_append, Bool.not_true, Bool.not_false, adoptAB, qi, qn]; first | (refine hK.out _ _ ?_; clear hK K) | (refine iteI (fun h => hK.out _ _ ?_) (fun h => hK.out _ _ ?_) <;> clear hK K)))
    simp only [resultsR, resultsL, resultA, expK_int, expK_bool, expK_str, expK_agg, expK_own, expK_tsl, resK_some, go_sem, reduceIte, Nat.reduceAdd, Nat.reduceEqDiff, Nat.reduceLT, Nat.reduceLeDiff, and_self, ]
  by_cases t2 : 86400000 < r.len
  · have e : chkC ps r = 12 := by rw [chkC, k1, k2]; simp [timeOK]; omega
    rw [e]
    clear e k1 k2
    refine EvV.walk rfl fn23 rfl nt23 rfl ?_
    simp only [List.length_cons, List.length_nil, List.cons_append, List.nil_append, Nat.reduceAdd, Nat.reduceSub, List.replicate]
    repeat' (first | refine go1 ?_ | refine blockK_else rfl ?_ | (refine wpC_cond fun A B hA hB => ?_; simp only [go_sem, reduceIte, Nat.reduceAdd, Nat.reduceEqDiff, Nat.reduceLT, Nat.reduceLeDiff, *, and_self, encP, encRc, c1, hws, snap_str, List.cons_append, Bool.not_true, Bool.not_false, adoptAB, qi, qn]; first | (refine hA.out ?_; clear hA hB A B) | (refine hB.out ?_; clear hA hB A B) | (refine iteI (fun h => hA.out ?_) (fun h => hB.out ?_) <;> clear hA hB A B) | (refine iteI (fun h => hB.out ?_) (fun h => hA.out ?_) <;> clear hA hB A B)) | (refine wpO_cons fun K hK => ?_; simp only [go_sem, reduceIte, Nat.reduceAdd, Nat.reduceEqDiff, Nat.reduceLT, Nat.reduceLeDiff, *, and_self, encP, encRc, c1, hws, snap_str, List.cons_append, Bool.not_true, Bool.not_false, adoptAB, qi, qn]; first | (refine hK.out _ _ ?_; clear hK K) | (refine iteI (fun h => hK.out _ _ ?_) (fun h => hK.out _ _ ?_) <;> clear hK K)))
    simp only [resultsR, resultsL, resultA, expK_int, expK_bool, expK_str, expK_agg, expK_own, expK_tsl, resK_some, go_sem, reduceIte, Nat.reduceAdd, Nat.reduceEqDiff, Nat.reduceLT, Nat.reduceLeDiff, and_self, ]
  have kt : timeOK r = true := by simp [timeOK]; omega
  by_cases d1 : r.day < 1
  · have e : chkC ps r = 2 := by rw [chkC, k1, k2, kt]; simp [dayOK]; omega
    rw [e]
    clear e k1 k2 kt
    refine EvV.walk rfl fn23 rfl nt23 rfl ?_
    simp only [List.length_cons, List.length_nil, List.cons_append, List.nil_append, Nat.reduceAdd, Nat.reduceSub, List.replicate]
    repeat' (first | refine go1 ?_ | refine blockK_else rfl ?_ | (refine wpC_cond fun A B hA hB => ?_; simp only [go_sem, reduceIte, Nat.reduceAdd, Nat.reduceEqDiff, Nat.reduceLT, Nat.reduceLeDiff, *, and_self, encP, encRc, c1, hws, snap_str, List.cons_append, Bool.not_true, Bool.not_false, adoptAB, qi, qn]; first | (refine hA.out ?_; clear hA hB A B) | (refine hB.out ?_; clear hA hB A B) | (refine iteI (fun h => hA.out ?_) (fun h => hB.out ?_) <;> clear hA hB A B) | (refine iteI (fun h => hB.out ?_) (fun h => hA.out ?_) <;> clear hA hB A B)) | (refine wpO_cons fun K hK => ?_; simp only [go_sem, reduceIte, Nat.reduceAdd, Nat.reduceEqDiff, Nat.reduceLT, Nat.reduceLeDiff, *, and_self, encP, encRc, c1, hws, snap_str, List.cons_append, Bool.not_true, Bool.not_false, adoptAB, qi, qn]; first | (refine hK.out _ _ ?_; clear hK K) | (refine iteI (fun h => hK.out _ _ ?_) (fun h => hK.out _ _ ?_) <;> clear hK K)))
    simp only [resultsR, resultsL, resultA, expK_int, expK_bool, expK_str, expK_agg, expK_own, expK_tsl, resK_some, go_sem, reduceIte, Nat.reduceAdd, Nat.reduceEqDiff, Nat.reduceLT, Nat.reduceLeDiff, and_self, ]
  by_cases d2 : 109573 < r.day
  · have e : chkC ps r = 2 := by rw [chkC, k1, k2, kt]; simp [dayOK]; omega
    rw [e]
    clear e k1 k2 kt
    refine EvV.walk rfl fn23 rfl nt23 rfl ?_
    simp only [List.length_cons, List.length_nil, List.cons_append, List.nil_append, Nat.reduceAdd, Nat.reduceSub, List.replicate]
    repeat' (first | refine go1 ?_ | refine blockK_else rfl ?_ | (refine wpC_cond fun A B hA hB => ?_; simp only [go_sem, reduceIte, Nat.reduceAdd, Nat.reduceEqDiff, Nat.reduceLT, Nat.reduceLeDiff, *, and_self, encP, encRc, c1, hws, snap_str, List.cons_append, Bool.not_true, Bool.not_false, adoptAB, qi, qn]; first | (refine hA.out ?_; clear hA hB A B) | (refine hB.out ?_; clear hA hB A B) | (refine iteI (fun h => hA.out ?_) (fun h => hB.out ?_) <;> clear hA hB A B) | (refine iteI (fun h => hB.out ?_) (fun h => hA.out ?_) <;> clear hA hB A B)) | (refine wpO_cons fun K hK => ?_; simp only [go_sem, reduceIte, Nat.reduceAdd, Nat.reduceEqDiff, Nat.reduceLT, Nat.reduceLeDiff, *, and_self, encP, encRc, c1, hws, snap_str, List.cons_append, Bool.not_true, Bool.not_false, adoptAB, qi, qn]; first | (refine hK.out _ _ ?_; clear hK K) | (refine iteI (fun h => hK.out _ _ ?_) (fun h => hK.out _ _ ?_) <;> clear hK K)))
    simp only [resultsR, resultsL, resultA, expK_int, expK_bool, expK_str, expK_agg, expK_own, expK_tsl, resK_some, go_sem, reduceIte, Nat.reduceAdd, Nat.reduceEqDiff, Nat.reduceLT, Nat.reduceLeDiff, and_self, ]
  have kd : dayOK r = true := by simp [dayOK]; omega
  by_cases k3 : r.sp = []
  · have e : chkC ps r = 1 := by rw [chkC, k1, k2, kt, kd, if_pos k3]; rfl
    have z : ((r.sp.length : Int) == 0) = true := by rw [k3]; rfl
    rw [e]
    clear e k1 k2 kt kd k3
    refine EvV.walk rfl fn23 rfl nt23 rfl ?_
    simp only [List.length_cons, List.length_nil, List.cons_append, List.nil_append, Nat.reduceAdd, Nat.reduceSub, List.replicate]
    repeat' (first | refine go1 ?_ | refine blockK_else rfl ?_ | (refine wpC_cond fun A B hA hB => ?_; simp only [go_sem, reduceIte, Nat.reduceAdd, Nat.reduceEqDiff, Nat.reduceLT, Nat.reduceLeDiff, *, and_self, encP, encRc, c1, hws, snap_str, List.cons_append, Bool.not_true, Bool.not_false, adoptAB, qi, qn, lenK_sls hr.sv, ints_len]; first | (refine hA.out ?_; clear hA hB A B) | (refine hB.out ?_; clear hA hB A B) | (refine iteI (fun h => hA.out ?_) (fun h => hB.out ?_) <;> clear hA hB A B) | (refine iteI (fun h => hB.out ?_) (fun h => hA.out ?_) <;> clear hA hB A B)) | (refine wpO_cons fun K hK => ?_; simp only [go_sem, reduceIte, Nat.reduceAdd, Nat.reduceEqDiff, Nat.reduceLT, Nat.reduceLeDiff, *, and_self, encP, encRc, c1, hws, snap_str, List.cons_append, Bool.not_true, Bool.not_false, adoptAB, qi, qn, lenK_sls hr.sv, ints_len]; first | (refine hK.out _ _ ?_; clear hK K) | (refine iteI (fun h => hK.out _ _ ?_) (fun h => hK.out _ _ ?_) <;> clear hK K)))
    simp only [resultsR, resultsL, resultA, expK_int, expK_bool, expK_str, expK_agg, expK_own, expK_tsl, resK_some, go_sem, reduceIte, Nat.reduceAdd, Nat.reduceEqDiff, Nat.reduceLT, Nat.reduceLeDiff, and_self, ]
  have e : chkC ps r = spkF ps [] r.sp := by rw [chkC, k1, k2, kt, kd, if_neg k3]; rfl
  have z : ((r.sp.length : Int) == 0) = false := by simp [k3]
  rw [e]
  clear e k1 k2 kt kd k3
  refine EvV.walk rfl fn23 rfl nt23 rfl ?_
  simp only [List.length_cons, List.length_nil, List.cons_append, List.nil_append, Nat.reduceAdd, Nat.reduceSub, List.replicate]
  repeat' (first | refine go1 ?_ | refine blockK_else rfl ?_ | (refine wpC_cond fun A B hA hB => ?_; simp only [go_sem, reduceIte, Nat.reduceAdd, Nat.reduceEqDiff, Nat.reduceLT, Nat.reduceLeDiff, *, and_self, encP, encRc, c1, hws, snap_str, List.cons_append, Bool.not_true, Bool.not_false, adoptAB, qi, qn, lenK_sls hr.sv, ints_len]; first | (refine hA.out ?_; clear hA hB A B) | (refine hB.out ?_; clear hA hB A B) | (refine iteI (fun h => hA.out ?_) (fun h => hB.out ?_) <;> clear hA hB A B) | (refine iteI (fun h => hB.out ?_) (fun h => hA.out ?_) <;> clear hA hB A B)) | (refine wpO_cons fun K hK => ?_; simp only [go_sem, reduceIte, Nat.reduceAdd, Nat.reduceEqDiff, Nat.reduceLT, Nat.reduceLeDiff, *, and_self, encP, encRc, c1, hws, snap_str, List.cons_append, Bool.not_true, Bool.not_false, adoptAB, qi, qn, lenK_sls hr.sv, ints_len]; first | (refine hK.out _ _ ?_; clear hK K) | (refine iteI (fun h => hK.out _ _ ?_) (fun h => hK.out _ _ ?_) <;> clear hK K)))
  refine wpC_each [4, 5, 6, 7, 40, 41, 42, 43, 44, 45, 46, 47, 48, 49, 50, 51, 52, 53, 54, 55, 56, 57, 58, 59, 60, 61, 62, 63, 64, 65, 66, 67, 68, 69, 70] 39 r.sp (fun pre post => spkF ps [] r.sp = spkF ps pre post) ?_ ?_ ?_ ?_
  · rfl
  · ((try simp only [eraseA_cons, eraseA_nil, setL_cons, setL_nil, List.set_cons_zero, List.set_cons_succ]); all_goals (first | rfl | (simp only [len_snoc, ints_len, List.length_map, ]; done) | (simp only [len_snoc, len_mid, ints_len, List.length_map, List.length_append, List.length_cons, List.length_nil, Nat.zero_add, ]; done) | (simp only [len_mid, len_snoc, ints_len, List.length_map, List.length_append, List.length_cons, List.length_nil, Nat.zero_add, ]; rfl)))
  · intro g G hE
    rw [hE]
    simp only [garbA_cons, garbA_nil, setL_cons, setL_nil, List.set_cons_zero, List.set_cons_succ]
    repeat' (first | refine go1 ?_ | refine blockK_else rfl ?_ | (refine wpC_cond fun A B hA hB => ?_; simp only [go_sem, reduceIte, Nat.reduceAdd, Nat.reduceEqDiff, Nat.reduceLT, Nat.reduceLeDiff, *, and_self, ints_len, List.length_map, Int.lt_irrefl, List.nil_append]; first | (refine hA.out ?_; clear hA hB A B) | (refine hB.out ?_; clear hA hB A B) | (refine iteI (fun h => hA.out ?_) (fun h => hB.out ?_) <;> clear hA hB A B) | (refine iteI (fun h => hB.out ?_) (fun h => hA.out ?_) <;> clear hA hB A B)) | (refine wpO_cons fun K hK => ?_; simp only [go_sem, reduceIte, Nat.reduceAdd, Nat.reduceEqDiff, Nat.reduceLT, Nat.reduceLeDiff, *, and_self, ints_len, List.length_map, Int.lt_irrefl, List.nil_append]; first | (refine hK.out _ _ ?_; clear hK K) | (refine iteI (fun h => hK.out _ _ ?_) (fun h => hK.out _ _ ?_) <;> clear hK K)))
    simp only [resultsR, resultsL, resultA, expK_int, expK_bool, expK_str, expK_agg, expK_own, expK_tsl, resK_some, go_sem, reduceIte, Nat.reduceAdd, Nat.reduceEqDiff, Nat.reduceLT, Nat.reduceLeDiff, and_self, ]
    rfl
  intro g G pre x post h1 hE
  have i1 := idx_sls hr.sv (X := CX) ty33 ty3 rfl (by rw [h1]; exact ints_mid pre x post) (k := .i64)
  have i2 := prev_ints (v := r.sv) (pre := pre) (x := x) (post := post) (by rw [← h1]; exact hr.sv) (by rw [← h1]; exact hsl) (X := CX) ty33 ty3 rfl (k := .i64)
  have lt1 : (pre.length : Int) < (r.sp.length : Int) := by rw [h1]; simp; omega
  have w1 := wrap_succ (n := pre.length) (by omega)
  have q := (personR w ps x hw hl).rw
  have hh1 : Hold (r.sp = pre ++ x :: post) := ⟨h1⟩
  rw [hE, spkF]
  clear h1 hE
  simp only [garbA_cons, garbA_nil, setL_cons, setL_nil, List.set_cons_zero, List.set_cons_succ]
  by_cases o : (0 : Int) < (pre.length : Int) ∧ x ≤ pre.getLastD 0
  · rw [if_pos o]
    obtain ⟨o1, o2⟩ := o
    have i2 := i2 o1
    repeat' (first | refine go1 ?_ | refine blockK_else rfl ?_ | (refine wpC_cond fun A B hA hB => ?_; simp only [go_sem, reduceIte, Nat.reduceAdd, Nat.reduceEqDiff, Nat.reduceLT, Nat.reduceLeDiff, *, and_self, encP, encRc, c1, hws, snap_str, List.cons_append, Bool.not_true, Bool.not_false, adoptAB, qi, qn, i1, i2, w1, q, getElem?_len, getElem?_lenAdd, set_len, set_lenAdd, len_mid, ints_len, List.length_map, lt_mid, List.nil_append]; first | (refine hA.out ?_; clear hA hB A B) | (refine hB.out ?_; clear hA hB A B) | (refine iteI (fun h => hA.out ?_) (fun h => hB.out ?_) <;> clear hA hB A B) | (refine iteI (fun h => hB.out ?_) (fun h => hA.out ?_) <;> clear hA hB A B)) | (refine wpO_cons fun K hK => ?_; simp only [go_sem, reduceIte, Nat.reduceAdd, Nat.reduceEqDiff, Nat.reduceLT, Nat.reduceLeDiff, *, and_self, encP, encRc, c1, hws, snap_str, List.cons_append, Bool.not_true, Bool.not_false, adoptAB, qi, qn, i1, i2, w1, q, getElem?_len, getElem?_lenAdd, set_len, set_lenAdd, len_mid, ints_len, List.length_map, lt_mid, List.nil_append]; first | (refine hK.out _ _ ?_; clear hK K) | (refine iteI (fun h => hK.out _ _ ?_) (fun h => hK.out _ _ ?_) <;> clear hK K)))
    simp only [resultsR, resultsL, resultA, expK_int, expK_bool, expK_str, expK_agg, expK_own, expK_tsl, resK_some, go_sem, reduceIte, Nat.reduceAdd, Nat.reduceEqDiff, Nat.reduceLT, Nat.reduceLeDiff, and_self, ]
  · rw [if_neg o]
    have hx : (¬ (0 : Int) < (pre.length : Int)) ∨ ((0 : Int) < (pre.length : Int) ∧ ¬ x ≤ pre.getLastD 0) := by omega
    clear o
    rcases hx with o1 | ⟨o1, o2⟩
    · clear i2
      cases k : isP ps x with
      | true =>
        rw [k] at q
        rw [if_pos rfl]
        clear k
        repeat' (first | refine go1 ?_ | refine blockK_else rfl ?_ | (refine wpC_cond fun A B hA hB => ?_; simp only [go_sem, reduceIte, Nat.reduceAdd, Nat.reduceEqDiff, Nat.reduceLT, Nat.reduceLeDiff, *, and_self, encP, encRc, c1, hws, snap_str, List.cons_append, Bool.not_true, Bool.not_false, adoptAB, qi, qn, i1, w1, q, getElem?_len, getElem?_lenAdd, set_len, set_lenAdd, len_mid, ints_len, List.length_map, lt_mid, List.nil_append]; first | (refine hA.out ?_; clear hA hB A B) | (refine hB.out ?_; clear hA hB A B) | (refine iteI (fun h => hA.out ?_) (fun h => hB.out ?_) <;> clear hA hB A B) | (refine iteI (fun h => hB.out ?_) (fun h => hA.out ?_) <;> clear hA hB A B)) | (refine wpO_cons fun K hK => ?_; simp only [go_sem, reduceIte, Nat.reduceAdd, Nat.reduceEqDiff, Nat.reduceLT, Nat.reduceLeDiff, *, and_self, encP, encRc, c1, hws, snap_str, List.cons_append, Bool.not_true, Bool.not_false, adoptAB, qi, qn, i1, w1, q, getElem?_len, getElem?_lenAdd, set_len, set_lenAdd, len_mid, ints_len, List.length_map, lt_mid, List.nil_append]; first | (refine hK.out _ _ ?_; clear hK K) | (refine iteI (fun h => hK.out _ _ ?_) (fun h => hK.out _ _ ?_) <;> clear hK K)))
        refine each_next hh1.out rfl ?_ ?_
        · ((try simp only [eraseA_cons, eraseA_nil, setL_cons, setL_nil, List.set_cons_zero, List.set_cons_succ]); all_goals (first | rfl | (simp only [len_snoc, ints_len, List.length_map, ]; done) | (simp only [len_snoc, len_mid, ints_len, List.length_map, List.length_append, List.length_cons, List.length_nil, Nat.zero_add, ]; done) | (simp only [len_mid, len_snoc, ints_len, List.length_map, List.length_append, List.length_cons, List.length_nil, Nat.zero_add, ]; rfl)))
        · first | exact ⟨[], (List.append_nil _).symm⟩ | exact ⟨_, rfl⟩ | (simp only [List.append_assoc, List.cons_append, List.nil_append]; exact ⟨_, rfl⟩)
      | false =>
        rw [k] at q
        rw [if_neg (by simp)]
        clear k
        repeat' (first | refine go1 ?_ | refine blockK_else rfl ?_ | (refine wpC_cond fun A B hA hB => ?_; simp only [go_sem, reduceIte, Nat.reduceAdd, Nat.reduceEqDiff, Nat.reduceLT, Nat.reduceLeDiff, *, and_self, encP, encRc, c1, hws, snap_str, List.cons_append, Bool.not_true, Bool.not_false, adoptAB, qi, qn, i1, w1, q, getElem?_len, getElem?_lenAdd, set_len, set_lenAdd, len_mid, ints_len, List.length_map, lt_mid, List.nil_append]; first | (refine hA.out ?_; clear hA hB A B) | (refine hB.out ?_; clear hA hB A B) | (refine iteI (fun h => hA.out ?_) (fun h => hB.out ?_) <;> clear hA hB A B) | (refine iteI (fun h => hB.out ?_) (fun h => hA.out ?_) <;> clear hA hB A B)) | (refine wpO_cons fun K hK => ?_; simp only [go_sem, reduceIte, Nat.reduceAdd, Nat.reduceEqDiff, Nat.reduceLT, Nat.reduceLeDiff, *, and_self, encP, encRc, c1, hws, snap_str, List.cons_append, Bool.not_true, Bool.not_false, adoptAB, qi, qn, i1, w1, q, getElem?_len, getElem?_lenAdd, set_len, set_lenAdd, len_mid, ints_len, List.length_map, lt_mid, List.nil_append]; first | (refine hK.out _ _ ?_; clear hK K) | (refine iteI (fun h => hK.out _ _ ?_) (fun h => hK.out _ _ ?_) <;> clear hK K)))
        simp only [resultsR, resultsL, resultA, expK_int, expK_bool, expK_str, expK_agg, expK_own, expK_tsl, resK_some, go_sem, reduceIte, Nat.reduceAdd, Nat.reduceEqDiff, Nat.reduceLT, Nat.reduceLeDiff, and_self, ]
    · have i2 := i2 o1
      cases k : isP ps x with
      | true =>
        rw [k] at q
        rw [if_pos rfl]
        clear k
        repeat' (first | refine go1 ?_ | refine blockK_else rfl ?_ | (refine wpC_cond fun A B hA hB => ?_; simp only [go_sem, reduceIte, Nat.reduceAdd, Nat.reduceEqDiff, Nat.reduceLT, Nat.reduceLeDiff, *, and_self, encP, encRc, c1, hws, snap_str, List.cons_append, Bool.not_true, Bool.not_false, adoptAB, qi, qn, i1, i2, w1, q, getElem?_len, getElem?_lenAdd, set_len, set_lenAdd, len_mid, ints_len, List.length_map, lt_mid, List.nil_append]; first | (refine hA.out ?_; clear hA hB A B) | (refine hB.out ?_; clear hA hB A B) | (refine iteI (fun h => hA.out ?_) (fun h => hB.out ?_) <;> clear hA hB A B) | (refine iteI (fun h => hB.out ?_) (fun h => hA.out ?_) <;> clear hA hB A B)) | (refine wpO_cons fun K hK => ?_; simp only [go_sem, reduceIte, Nat.reduceAdd, Nat.reduceEqDiff, Nat.reduceLT, Nat.reduceLeDiff, *, and_self, encP, encRc, c1, hws, snap_str, List.cons_append, Bool.not_true, Bool.not_false, adoptAB, qi, qn, i1, i2, w1, q, getElem?_len, getElem?_lenAdd, set_len, set_lenAdd, len_mid, ints_len, List.length_map, lt_mid, List.nil_append]; first | (refine hK.out _ _ ?_; clear hK K) | (refine iteI (fun h => hK.out _ _ ?_) (fun h => hK.out _ _ ?_) <;> clear hK K)))
        refine each_next hh1.out rfl ?_ ?_
        · ((try simp only [eraseA_cons, eraseA_nil, setL_cons, setL_nil, List.set_cons_zero, List.set_cons_succ]); all_goals (first | rfl | (simp only [len_snoc, ints_len, List.length_map, ]; done) | (simp only [len_snoc, len_mid, ints_len, List.length_map, List.length_append, List.length_cons, List.length_nil, Nat.zero_add, ]; done) | (simp only [len_mid, len_snoc, ints_len, List.length_map, List.length_append, List.length_cons, List.length_nil, Nat.zero_add, ]; rfl)))
        · first | exact ⟨[], (List.append_nil _).symm⟩ | exact ⟨_, rfl⟩ | (simp only [List.append_assoc, List.cons_append, List.nil_append]; exact ⟨_, rfl⟩)
      | false =>
        rw [k] at q
        rw [if_neg (by simp)]
        clear k
        repeat' (first | refine go1 ?_ | refine blockK_else rfl ?_ | (refine wpC_cond fun A B hA hB => ?_; simp only [go_sem, reduceIte, Nat.reduceAdd, Nat.reduceEqDiff, Nat.reduceLT, Nat.reduceLeDiff, *, and_self, encP, encRc, c1, hws, snap_str, List.cons_append, Bool.not_true, Bool.not_false, adoptAB, qi, qn, i1, i2, w1, q, getElem?_len, getElem?_lenAdd, set_len, set_lenAdd, len_mid, ints_len, List.length_map, lt_mid, List.nil_append]; first | (refine hA.out ?_; clear hA hB A B) | (refine hB.out ?_; clear hA hB A B) | (refine iteI (fun h => hA.out ?_) (fun h => hB.out ?_) <;> clear hA hB A B) | (refine iteI (fun h => hB.out ?_) (fun h => hA.out ?_) <;> clear hA hB A B)) | (refine wpO_cons fun K hK => ?_; simp only [go_sem, reduceIte, Nat.reduceAdd, Nat.reduceEqDiff, Nat.reduceLT, Nat.reduceLeDiff, *, and_self, encP, encRc, c1, hws, snap_str, List.cons_append, Bool.not_true, Bool.not_false, adoptAB, qi, qn, i1, i2, w1, q, getElem?_len, getElem?_lenAdd, set_len, set_lenAdd, len_mid, ints_len, List.length_map, lt_mid, List.nil_append]; first | (refine hK.out _ _ ?_; clear hK K) | (refine iteI (fun h => hK.out _ _ ?_) (fun h => hK.out _ _ ?_) <;> clear hK K)))
        simp only [resultsR, resultsL, resultA, expK_int, expK_bool, expK_str, expK_agg, expK_own, expK_tsl, resK_some, go_sem, reduceIte, Nat.reduceAdd, Nat.reduceEqDiff, Nat.reduceLT, Nat.reduceLeDiff, and_self, ]
end Go.Eng
