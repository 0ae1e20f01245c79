/- Part 1 of the texts behind this claim. -/
import Derived.Test.YtoeogoeahmlgnaaGreatDoorCtxS
import Derived.Test.YtoeogoeahmlgnaaGreatDoorEngV
import Derived.Test.YtoeogoeahmlgnaaGreatDoorLu
set_option linter.all false

namespace Go.Eng
open Go.Proofs
set_option linter.unusedSimpArgs false
set_option linter.unusedVariables false
attribute [local irreducible] wpC wpO wp1 EvV EvR wpL
attribute [local go_sem] ty3 ty4 ty5 ty9 reduceIte Nat.reduceAdd Nat.reduceEqDiff Nat.reduceLT Nat.reduceLeDiff beq_iff_eq beq_eq_false_iff_ne Int.natCast_inj Bool.not_eq_false' op1_go wpK_box wpK_alloc wpK_load wpK_store wpK_binOp wpK_unOp wpK_fieldAddr wpK_field wpK_build wpK_indexAddr wpK_slice wpK_len wpK_extract wpK_nilCheck wpK_pick wpK_makeFunc wpK_call wpK_callT wpK_max wpK_min wpK_assignT wpK_moveT wpK_assignB wpK_moveB wpK_assignI wpK_moveI wpK_assignA wpK_moveA callK_fn snapL_nil snapL_cons snap_int snap_bool snap_str snap_tsl snap_agg snap_fn snap_flat adopt_int adopt_bool adopt_str adopt_agg adopt_osl adopt_tsl adopt_tup op1_guard grdK_bool grdK_undef condK_bool someK_some pairK_some nilK_ptr nilK_tptr boxK storeK evalA_tmp evalA_int evalA_bool evalA_agg evalA_fn evalA_nil ofC_int ofC_bool getA_zero getA_succ cells_int cells_agg cells_bool cells_sl cells_tsl cell_int cell_bool cell_str cell_sl cell_esl cell_tsl cell_ptr cell_tptr cell_fn cell_nils cell_nilf List.all_cons List.all_nil Bool.and_true Bool.and_self Bool.true_and putA_some putA_none List.set_cons_zero List.set_cons_succ List.length_cons List.length_nil List.nil_append List.cons_append stabL AV.stab fieldAddrA fieldA List.getElem?_cons_zero List.getElem?_cons_succ Nat.zero_add loadA rowOf Nat.le_refl and_self true_and and_true partA binA unA intBin eqBin eqCells eqCell Option.bind_some decide_true decide_false decide_eq_true_eq ite_not Bool.not_eq_true' decide_eq_false_iff_not Bool.false_eq_true Option.map_some Option.map_none Bool.not_true Bool.not_false buildA fillA patch List.take List.drop List.map_cons List.map_nil extK List.getD_cons_zero List.getD_cons_succ minmaxA minmaxGo adoptZ_false adoptZ_true freeze_int freeze_bool freeze_str freeze_flat freeze_agg freeze_osl freeze_tsl freeze_tup frz1_bool frz1_int frz1_str frz1_agg frz1_osl frz1_tsl bne Bool.false_and Bool.and_false ne_eq not_true_eq_false not_false_eq_true List.append_nil resultsR resultsL resultA expK_int expK_bool expK_str expK_agg expK_own expK_tsl resK_some latK_false latK_true latP_store latP_move latP_assign latP_pick latP_nilCheck latP_makeInterface latP_binOp latP_unOp latP_convert latP_build latP_field latP_fieldAddr latP_indexAddr latP_index latP_slice latP_makeFunc latP_extract latP_call latP_load latP_alloc latP_box latP_buildSlice latP_makeSlice latP_makeMap latP_lookup latP_mapUpdate latP_range latP_next latP_entry nestNo wpK_lookup wpK_range wpK_next wpK_entry wpK_makeMap wpK_mapUpdate cell_mp
set_option maxHeartbeats 4000000

theorem toList_loop (s : ByteArray) : ∀ (k i : Nat) (r : List UInt8), s.size ≤ i + k → ByteArray.toList.loop s i r = r.reverse ++ s.data.toList.drop i := by
  intro k
  induction k with
  | zero =>
    intro i r h
    unfold ByteArray.toList.loop
    rw [if_neg (by omega), List.drop_eq_nil_of_le (by simpa using h), List.append_nil]
  | succ k ih =>
    intro i r h
    unfold ByteArray.toList.loop
    split
    · rename_i hi
      rw [ih _ _ (by omega), List.reverse_cons, List.append_assoc]
      have hi' : i < s.data.toList.length := by simpa using hi
      rw [List.drop_eq_getElem_cons hi']
      simp [ByteArray.get!, hi]
    · rw [List.drop_eq_nil_of_le (by simp; omega), List.append_nil]
theorem toList_data (s : ByteArray) : s.toList = s.data.toList := by
  unfold ByteArray.toList
  rw [toList_loop s s.size 0 [] (by omega)]; simp

def bytesR (l : List UInt8) : List (List AV) := l.map fun c => [.int .u8 (c.toNat : Int)]
def sbK (v : AV) (dst : Option Tmp) (K : List AV → Store → Prop) (fr : List AV) (S : Store) (P : Prop) : Prop :=
  match v with
  | .str s => if s.size ≤ 140737488355328 then K (putA fr dst (.tsl true 1 (bytesR s.data.toList))) S else False
  | _ => P
theorem sbK_str {s : ByteArray} {dst : Option Tmp} {K : List AV → Store → Prop} {fr : List AV} {S : Store} {P : Prop} (h : s.size ≤ 140737488355328) : sbK (.str s) dst K fr S P = K (putA fr dst (.tsl true 1 (bytesR s.data.toList))) S := if_pos h
theorem wpK_sb {X : Ctx} {d : Bool} {dst : Option Tmp} {ty : TypeId} {pos : String} {after : Array Edge} {g : Option (Nat × Bool)} {K : List AV → Store → Prop} {fr : List AV} {S : Store} {s t el : TypeId} {x : Operand} {i j e : TyI}
    (hs : X.ty s = some j) (ht : X.ty t = some i) (he : X.ty el = some e) (hj : j.desc = .str) (hi : i.desc = .slice el) (hd : e.desc = .int .u8) :
    wpK X d ⟨dst, .convert s t x, ty, pos, after, g⟩ dst K fr S = sbK (evalA fr x) dst K fr S (wp1 X d ⟨dst, .convert s t x, ty, pos, after, g⟩ (fun v S' => K (putA fr dst v) S') fr S) := by
  obtain ⟨a1, b1, c1, e1, f1⟩ := i
  obtain ⟨a2, b2, c2, e2, f2⟩ := j
  obtain ⟨a3, b3, c3, e3, f3⟩ := e
  simp only at hj hi hd; subst hj hi hd
  unfold sbK
  split
  · rename_i v hv
    have hp : popA X fr ⟨dst, .convert s t x, ty, pos, after, g⟩ = none := by simp only [popA, convA, hs, ht, hv]
    rw [wpK_qop (if v.size ≤ 140737488355328 then some (.tsl true 1 (bytesR v.data.toList), []) else none) hp (by simp only [qopA, hs, ht, hv, he, toList_data]; rfl) rfl rfl rfl]
    by_cases h : v.size ≤ 140737488355328
    · simp only [if_pos h, pairK_some, List.append_nil]
    · simp only [if_neg h, pairK]
  · unfold wpK; rfl
theorem str_get {s : ByteArray} {pre post : List UInt8} {c : UInt8} (h : s.data.toList = pre ++ c :: post) : s[pre.length]? = some c := by
  have hl : pre.length < s.size := by
    have := congrArg List.length h
    simp at this; omega
  rw [getElem?_pos s pre.length hl]
  have : s.data.toList[pre.length]? = some c := by rw [h]; simp
  have e : s[pre.length] = s.data[pre.length]'(by simpa using hl) := rfl
  rw [e]
  simpa [hl] using this
theorem str_len {s : ByteArray} {l : List UInt8} (h : s.data.toList = l) : s.size = l.length := by rw [← h]; simp
theorem index_str {X : Ctx} {t : TypeId} {a c : Nat} {b : Bool} {d : List AV} {s : ByteArray} {n : Nat} {x : UInt8} {k : IntKind} (ht : X.ty t = some ⟨a, b, c, d, .str⟩) (h : s[n]? = some x) : indexA X t (.str s) (.int k n) = some (.int .u8 (x.toNat : Int)) := by
  simp [indexA, ht, h]

theorem bytesR_len (l : List UInt8) : (bytesR l).length = l.length := by simp [bytesR]

/-- What a name may hold. -/
def lowC (c : UInt8) : Bool := decide (97 ≤ (c.toNat : Int)) && decide ((c.toNat : Int) ≤ 122)
def nameC (c : UInt8) : Bool := lowC c || (decide (48 ≤ (c.toNat : Int)) && decide ((c.toNat : Int) ≤ 57)) || decide ((c.toNat : Int) = 45) || decide ((c.toNat : Int) = 95)
def nameL : List UInt8 → Bool
  | [] => false
  | c :: l => decide (l.length + 1 ≤ 32) && lowC c && l.all nameC

def nmC : List UInt8 → Bool
  | [] => true
  | c :: l => lowC c && l.all nameC
theorem nmC_snoc (l : List UInt8) (x : UInt8) : nmC (l ++ [x]) = (nmC l && if l = [] then lowC x else nameC x) := by
  cases l with
  | nil => simp [nmC]
  | cons c l => simp [nmC, Bool.and_assoc]
theorem nmC_app (l m : List UInt8) (h : nmC l = false) : nmC (l ++ m) = false := by
  cases l with
  | nil => simp [nmC] at h
  | cons c l =>
    simp only [nmC, List.cons_append, List.all_append] at h ⊢
    rw [← Bool.and_assoc, h, Bool.false_and]
theorem nameL_ok (l : List UInt8) : nameL l = (nmC l && (decide (1 ≤ l.length) && decide (l.length ≤ 32))) := by
  cases l with
  | nil => rfl
  | cons c l => simp only [nameL, nmC, List.length_cons]; cases lowC c <;> cases l.all nameC <;> simp

theorem nameR (s : ByteArray) (hs : s.size ≤ 9223372036854775807) : EvV CX 62 [.str s] (· = .bool (nameL s.data.toList)) := by
  obtain ⟨l, hl⟩ : ∃ l, s.data.toList = l := ⟨_, rfl⟩
  have hlen := str_len hl
  rw [hl]
  have hsz : (s.size : Int) = (l.length : Int) := by rw [hlen]
  refine EvV.walk rfl fn62 rfl nt62 rfl ?_
  simp only [List.length_cons, List.length_nil, List.cons_append, List.nil_append, Nat.reduceAdd, Nat.reduceSub, List.replicate]
  repeat' (first | refine go1 ?_ | refine blockK_else rfl ?_ | (refine go2 fun A B a b => ?_; simp only [go_sem, *]; (repeat' first | apply a.1 | apply b.1 | refine iteI (fun h => ?_) fun h => ?_) <;> clear a b A B))
  refine wpC_each [2, 4, 5, 6, 7, 8, 9, 10, 11, 12, 13, 14, 15, 16, 17, 18, 19, 20, 21, 22, 23, 24, 25, 26, 27, 28, 29, 30, 31, 32, 33, 34, 35, 36, 37, 38, 39, 40, 41, 42, 43, 44, 45, 46, 47, 48, 49, 50] 3 l (fun pre _ => nmC pre = true) ?_ ?_ ?_ ?_
  · rfl
  · rfl
  · intro g G h2
    simp only [garbA_cons, garbA_nil, setL_cons, setL_nil, List.set_cons_zero, List.set_cons_succ]
    rw [nameL_ok, h2, Bool.true_and]
    repeat' (first | refine go1 ?_ | refine blockK_else rfl ?_ | (refine go2 fun A B a b => ?_; simp only [go_sem, *, ints_len, List.length_map, Int.lt_irrefl, lenK_str, hsz]; (repeat' first | apply a.1 | apply b.1 | refine iteI (fun h => ?_) fun h => ?_) <;> clear a b A B))
    · simp only [go_sem]
      have : 1 ≤ l.length := by omega
      simp [this]
      omega
    · simp only [go_sem]
      have : ¬ 1 ≤ l.length := by omega
      simp [this]
  · intro g G pre x post h1 h2
    simp only [garbA_cons, garbA_nil, setL_cons, setL_nil, List.set_cons_zero, List.set_cons_succ]
    have i0 := index_str (X := CX) (k := .i64) ty9 (str_get (hl.trans h1))
    have lt1 : (pre.length : Int) < (l.length : Int) := by rw [h1]; simp; omega
    have w1 := wrap_succ (n := pre.length) (by omega)
    have hh : Hold (s.data.toList = l) := ⟨hl⟩
    have hh1 : Hold (l = pre ++ x :: post) := ⟨h1⟩
    have hh2 : Hold (nmC pre = true) := ⟨h2⟩
    clear hl h1 h2
    repeat' (first | refine go1 ?_ | refine blockK_else rfl ?_ | (refine go2 fun A B a b => ?_; simp only [go_sem, *, wpK_index, i0, lenK_str, hsz, lt1, w1]; (repeat' first | apply a.1 | apply b.1 | refine iteI (fun h => ?_) fun h => ?_) <;> clear a b A B))
    all_goals first
      | (refine each_next hh1.out ?_ ?_ ?_
         · rw [nmC_snoc, hh2.out, Bool.true_and]
           by_cases hp : pre = []
           · have : pre.length = 0 := by rw [hp]; rfl
             rw [if_pos hp]; simp [lowC]; omega
           · have : pre.length ≠ 0 := fun e => hp (List.eq_nil_of_length_eq_zero e)
             rw [if_neg hp]; simp [nameC, lowC]; omega
         · ((try simp only [eraseA_cons, eraseA_nil, setL_cons, setL_nil, List.set_cons_zero, List.set_cons_succ]); all_goals (first | rfl | (simp only [len_snoc, ints_len, List.length_map, ]; done) | (simp only [len_snoc, len_mid, ints_len, List.length_map, List.length_append, List.length_cons, List.length_nil, Nat.zero_add, ]; first | done | rfl)))
         · first | exact ⟨[], (List.append_nil _).symm⟩ | exact ⟨_, rfl⟩ | (simp only [List.append_assoc, List.cons_append, List.nil_append]; exact ⟨_, rfl⟩))
      | (simp only [go_sem]
         have e : nmC (pre ++ [x]) = false := by
           rw [nmC_snoc, hh2.out, Bool.true_and]
           by_cases hp : pre = []
           · have : pre.length = 0 := by rw [hp]; rfl
             rw [if_pos hp]; simp [lowC]; omega
           · have : pre.length ≠ 0 := fun e => hp (List.eq_nil_of_length_eq_zero e)
             rw [if_neg hp]; simp [nameC, lowC]; omega
         have e2 := nmC_app _ post e
         rw [nameL_ok, hh1.out, show pre ++ x :: post = (pre ++ [x]) ++ post by simp, e2, Bool.false_and])
end Go.Eng

/- Documents rebuilt from notes (plain): the notes that are added one by one are right, and have their ranks. -/
namespace Go.Eng

/-- A note. -/
structure Nt where
  id : Int
  ti : Int
  pa : Int
  fr : Int
  en : Int
  rk : Int
  tx : ByteArray
/-- A tier. -/
structure Ti where
  nm : ByteArray
  kd : Int
  ro : Int
  pa : Int

def alK (k : Int) : Bool := k == 0 || k == 1 || k == 2
def noT : Ti := ⟨.empty, 0, 0, 0⟩
def tierAt (ts : List Ti) (i : Int) : Ti := ts.getD i.toNat noT
def getN (ns : List Nt) (id : Int) : Option Nt := ns.find? fun n => n.id == id
def sibs (ns : List Nt) (ti pa : Int) : List Nt := ns.filter fun n => n.ti == ti && n.pa == pa
def Apart (a b : Nt) : Prop := ¬ (a.fr < b.en ∧ b.fr < a.en)
theorem Apart.symm {a b : Nt} (h : Apart a b) : Apart b a := fun k => h ⟨k.2, k.1⟩

/-- What the reference says of a note. -/
structure NoteOK (TX : ByteArray → Prop) (len : Int) (ts : List Ti) (ns : List Nt) (n : Nt) : Prop where
  id1 : 1 ≤ n.id
  ti0 : 0 ≤ n.ti
  tiL : n.ti < ts.length
  tx : TX n.tx
  par0 : (tierAt ts n.ti).kd = 0 → n.pa = 0
  par : (tierAt ts n.ti).kd ≠ 0 → ∃ p, getN ns n.pa = some p ∧ p.ti = (tierAt ts n.ti).pa ∧ (alK (tierAt ts n.ti).kd = true → p.fr ≤ n.fr ∧ n.en ≤ p.en)
  sp : alK (tierAt ts n.ti).kd = true → 0 ≤ n.fr ∧ n.fr < n.en ∧ n.en ≤ 86400000
  sp0 : alK (tierAt ts n.ti).kd = false → n.fr = 0 ∧ n.en = 0
  len : (tierAt ts n.ti).kd = 0 → n.en ≤ len
  rk0 : 0 ≤ n.rk
  rk1 : (tierAt ts n.ti).kd ≠ 3 → n.rk = 0

/-- A right document. -/
structure RightD (TX : ByteArray → Prop) (len : Int) (ts : List Ti) (ns : List Nt) : Prop where
  few : ns.length ≤ 14
  fewT : ts.length ≤ 6
  tier : ∀ (i : Nat) t, ts[i]? = some t → t.kd ≠ 0 → 0 ≤ t.pa ∧ t.pa < i
  ids : ns.Pairwise fun a b => a.id < b.id
  note : ∀ n ∈ ns, NoteOK TX len ts ns n
  over : ∀ n ∈ ns, alK (tierAt ts n.ti).kd = true → (sibs ns n.ti n.pa).Pairwise Apart
  rank : ∀ n ∈ ns, (tierAt ts n.ti).kd = 3 → ∀ k : Nat, k < (sibs ns n.ti n.pa).length → ∃ x ∈ sibs ns n.ti n.pa, x.rk = k
  lab : ∀ n ∈ ns, (tierAt ts n.ti).kd = 4 → (sibs ns n.ti n.pa).length ≤ 1

/-- The notes in the order in which they are added. -/
def seqN (T : Nat) (l : List Nt) : List Nt := (List.range T).flatMap fun t : Nat => l.filter fun n => n.ti == (t : Int)
def idOf (k : Nat) : Int := 16 * ((k : Int) + 1) + 2
def lk : List (Int × Int) → Int → Int
  | [], p => p
  | (o, i) :: r, p => if o == p then i else lk r p
def pairsN (st : List (Nt × Nt)) : List (Int × Int) := (0, 0) :: st.map fun p => (p.1.id, p.2.id)
def newN (st : List (Nt × Nt)) (n : Nt) : Nt := { n with id := idOf st.length, pa := lk (pairsN st) n.pa }
def stepN (st : List (Nt × Nt)) (n : Nt) : List (Nt × Nt) := st ++ [(n, newN st n)]
def runN (l : List Nt) : List (Nt × Nt) := l.foldl stepN []
theorem runN_snoc (l : List Nt) (n : Nt) : runN (l ++ [n]) = stepN (runN l) n := by unfold runN; rw [List.foldl_append]; rfl
theorem runN_nil : runN [] = [] := rfl

theorem snocInd {α : Type} {P : List α → Prop} (h0 : P []) (h1 : ∀ l x, P l → P (l ++ [x])) (l : List α) : P l := by
  have : ∀ l : List α, P l.reverse := by
    intro l
    induction l with
    | nil => exact h0
    | cons x l ih => rw [List.reverse_cons]; exact h1 _ _ ih
  simpa using this l.reverse

theorem runN_fst : ∀ l, (runN l).map (·.1) = l := by
  refine snocInd rfl fun l x ih => ?_
  rw [runN_snoc, stepN, List.map_append, ih]; rfl
theorem runN_len (l : List Nt) : (runN l).length = l.length := by
  have := congrArg List.length (runN_fst l); simpa using this
theorem runN_get : ∀ (l : List Nt) (i : Nat) (p : Nt × Nt), (runN l)[i]? = some p → p.2 = newN ((runN l).take i) p.1 := by
  refine snocInd (fun i p h => by simp [runN_nil] at h) fun l x ih i p h => ?_
  rw [runN_snoc, stepN] at h ⊢
  by_cases hi : i < (runN l).length
  · rw [List.getElem?_append_left hi] at h
    rw [List.take_append_of_le_length (by omega)]
    exact ih i p h
  · rw [List.getElem?_append_right (by omega)] at h
    have : i - (runN l).length = 0 := by
      cases hk : i - (runN l).length with
      | zero => rfl
      | succ k => rw [hk] at h; simp at h
    rw [this] at h
    simp at h
    subst h
    have e : i = (runN l).length := by omega
    subst e
    rw [List.take_left]
theorem idOf_lt {i j : Nat} : idOf i < idOf j ↔ i < j := by unfold idOf; omega
theorem idOf_inj {i j : Nat} : idOf i = idOf j ↔ i = j := by unfold idOf; omega
theorem idOf_pos (i : Nat) : 0 < idOf i := by unfold idOf; omega
/-- The new Id of each. -/
theorem runN_id {l : List Nt} {i : Nat} {p : Nt × Nt} (h : (runN l)[i]? = some p) : p.2.id = idOf i := by
  rw [runN_get l i p h]
  have hi := (List.getElem?_eq_some_iff.1 h).1
  show idOf ((runN l).take i).length = idOf i
  rw [List.length_take, Nat.min_eq_left (by omega)]

/-! ### Where a parent is found -/
theorem lk_app_of {a b : List (Int × Int)} {p : Int} (h : ∃ x ∈ a, x.1 = p) : lk (a ++ b) p = lk a p := by
  induction a with
  | nil => obtain ⟨x, hx, _⟩ := h; cases hx
  | cons y a ih =>
    obtain ⟨o, i⟩ := y
    simp only [List.cons_append, lk]
    by_cases ho : o = p
    · simp [ho]
    · have : (o == p) = false := by simpa using ho
      rw [this]
      simp only [Bool.false_eq_true, if_false]
      refine ih ?_
      obtain ⟨x, hx, hp⟩ := h
      rcases List.mem_cons.1 hx with rfl | hx
      · exact absurd hp ho
      · exact ⟨x, hx, hp⟩
theorem lk_get {a : List (Int × Int)} {i : Nat} {o k : Int} (hn : (a.map (·.1)).Nodup) (h : a[i]? = some (o, k)) : lk a o = k := by
  induction a generalizing i with
  | nil => simp at h
  | cons y a ih =>
    obtain ⟨o', k'⟩ := y
    simp only [List.map_cons, List.nodup_cons] at hn
    cases i with
    | zero => simp at h; simp [lk, h.1, h.2]
    | succ i =>
      simp at h
      have hne : o' ≠ o := fun e => hn.1 (by rw [e]; exact List.mem_map.2 ⟨(o, k), List.mem_of_getElem? h, rfl⟩)
      have : (o' == o) = false := by simpa using hne
      simp only [lk, this, Bool.false_eq_true, if_false]
      exact ih hn.2 h

theorem seqN_mem {T : Nat} {l : List Nt} {n : Nt} : n ∈ seqN T l ↔ n ∈ l ∧ ∃ t : Nat, t < T ∧ n.ti = t := by
  simp only [seqN, List.mem_flatMap, List.mem_range, List.mem_filter, beq_iff_eq]
  constructor
  · rintro ⟨t, h1, h2, h3⟩; exact ⟨h2, t, h1, h3⟩
  · rintro ⟨h2, t, h1, h3⟩; exact ⟨t, h1, h2, h3⟩
theorem seqN_succ (T : Nat) (l : List Nt) : seqN (T + 1) l = seqN T l ++ l.filter fun n => n.ti == (T : Int) := by
  simp [seqN, List.range_succ]
theorem seqN_sorted (T : Nat) (l : List Nt) : (seqN T l).Pairwise fun a b => a.ti ≤ b.ti := by
  induction T with
  | zero => simp [seqN]
  | succ T ih =>
    rw [seqN_succ, List.pairwise_append]
    refine ⟨ih, ?_, ?_⟩
    · rw [List.pairwise_iff_forall_sublist]
      intro a b hab
      have ha := hab.subset (List.mem_cons_self ..)
      have hb := hab.subset (List.mem_cons_of_mem _ (List.mem_cons_self ..))
      simp only [List.mem_filter, beq_iff_eq] at ha hb
      omega
    · intro a ha b hb
      obtain ⟨_, t, h1, h2⟩ := seqN_mem.1 ha
      simp only [List.mem_filter, beq_iff_eq] at hb
      omega
theorem uniq {l : List Nt} {a b : Nt} (hn : (l.map (·.id)).Nodup) (h1 : a ∈ l) (h2 : b ∈ l) (he : a.id = b.id) : a = b := by
  induction l with
  | nil => cases h1
  | cons x l ih =>
    rw [List.map_cons, List.nodup_cons, List.mem_map] at hn
    rcases List.mem_cons.1 h1 with e1 | k1 <;> rcases List.mem_cons.1 h2 with e2 | k2
    · rw [e1, e2]
    · exact (hn.1 ⟨b, k2, by rw [← he, e1]⟩).elim
    · exact (hn.1 ⟨a, k1, by rw [he, e2]⟩).elim
    · exact ih hn.2 k1 k2
theorem seqN_nodup {l : List Nt} (h : (l.map (·.id)).Nodup) (T : Nat) : ((seqN T l).map (·.id)).Nodup := by
  induction T with
  | zero => simp [seqN]
  | succ T ih =>
    rw [seqN_succ, List.map_append, List.nodup_append]
    refine ⟨ih, (List.filter_sublist.map _).nodup h, ?_⟩
    intro x hx y hy he
    obtain ⟨a, ha, rfl⟩ := List.mem_map.1 hx
    obtain ⟨b, hb, rfl⟩ := List.mem_map.1 hy
    obtain ⟨ha1, t, h1, h2⟩ := seqN_mem.1 ha
    simp only [List.mem_filter, beq_iff_eq] at hb
    have : a = b := uniq h ha1 hb.1 he
    subst this
    omega
theorem getN_some {ns : List Nt} {id : Int} {p : Nt} (h : getN ns id = some p) : p ∈ ns ∧ p.id = id := by
  unfold getN at h
  exact ⟨List.mem_of_find?_eq_some h, by simpa using List.find?_some h⟩
theorem getN_of {ns : List Nt} {p : Nt} (hn : (ns.map (·.id)).Nodup) (h : p ∈ ns) : getN ns p.id = some p := by
  unfold getN
  cases hf : ns.find? (fun n => n.id == p.id) with
  | none => rw [List.find?_eq_none] at hf; exact absurd (hf p h) (by simp)
  | some q =>
    have h1 := List.mem_of_find?_eq_some hf
    have h2 : q.id = p.id := by simpa using List.find?_some hf
    rw [uniq hn h1 h h2]

/-! ### The notes as they are added -/
section
variable {TX : ByteArray → Prop} {len : Int} {ts : List Ti} {ns l0 : List Nt} (hR : RightD TX len ts ns) (hm : ∀ n, n ∈ l0 ↔ n ∈ ns) (hlen : l0.length = ns.length) (hnd : (l0.map (·.id)).Nodup)

theorem ids_nodup {ns : List Nt} (h : ns.Pairwise fun a b => a.id < b.id) : (ns.map (·.id)).Nodup := by
  rw [List.Nodup, List.pairwise_map]
  exact h.imp fun h => by omega

include hR hm in
theorem seq_all {n : Nt} : n ∈ seqN ts.length l0 ↔ n ∈ ns := by
  rw [seqN_mem, hm]
  constructor
  · exact fun h => h.1
  · intro h
    have k := hR.note n h
    exact ⟨h, n.ti.toNat, by have := k.ti0; have := k.tiL; omega, by have := k.ti0; omega⟩

theorem run_mem {l : List Nt} {i : Nat} {p : Nt × Nt} (h : (runN l)[i]? = some p) : l[i]? = some p.1 := by
  have := congrArg (fun q => q[i]?) (runN_fst l)
  simp only [List.getElem?_map, h, Option.map_some] at this
  exact this.symm
theorem run_at {l : List Nt} {i : Nat} {n : Nt} (h : l[i]? = some n) : ∃ m, (runN l)[i]? = some (n, m) := by
  have := congrArg (fun q => q[i]?) (runN_fst l)
  simp only [List.getElem?_map, h] at this
  cases hr : (runN l)[i]? with
  | none => rw [hr] at this; cases this
  | some p =>
    rw [hr] at this
    simp only [Option.map_some, Option.some.injEq] at this
    exact ⟨p.2, by rw [← this]⟩

include hR hm hnd in
theorem par_idx {i : Nat} {o m : Nt} (h : (runN (seqN ts.length l0))[i]? = some (o, m)) :
    ((tierAt ts o.ti).kd = 0 ∧ o.pa = 0 ∧ m.pa = 0) ∨ ((tierAt ts o.ti).kd ≠ 0 ∧ ∃ (j : Nat) (p q : Nt), j < i ∧ (runN (seqN ts.length l0))[j]? = some (p, q) ∧ p.id = o.pa ∧ m.pa = idOf j ∧ p.ti = (tierAt ts o.ti).pa ∧ (alK (tierAt ts o.ti).kd = true → p.fr ≤ o.fr ∧ o.en ≤ p.en)) := by
  have ho := List.mem_of_getElem? (run_mem h)
  have hon := (seq_all hR hm).1 ho
  have ok := hR.note o hon
  have hpa : m.pa = lk (pairsN ((runN (seqN ts.length l0)).take i)) o.pa := congrArg Nt.pa (runN_get _ _ _ h)
  by_cases hk : (tierAt ts o.ti).kd = 0
  · have h0 := ok.par0 hk
    refine .inl ⟨hk, h0, ?_⟩
    rw [hpa, h0]; rfl
  · refine .inr ⟨hk, ?_⟩
    obtain ⟨p, hp, hpt, hps⟩ := ok.par hk
    obtain ⟨hpn, hpi⟩ := getN_some hp
    have okp := hR.note p hpn
    have hti : (tierAt ts o.ti).pa < o.ti := by
      have h1 := ok.ti0
      have h2 := ok.tiL
      have h3 : ts[o.ti.toNat]? = some (tierAt ts o.ti) := by
        unfold tierAt
        rw [List.getD_eq_getElem?_getD, List.getElem?_eq_getElem (by omega)]
        rfl
      have := (hR.tier _ _ h3 hk).2
      omega
    obtain ⟨j, hj⟩ := List.getElem?_of_mem ((seq_all hR hm).2 hpn)
    obtain ⟨q, hq⟩ := run_at hj
    have hji : j < i := by
      rcases Nat.lt_trichotomy j i with h1 | h1 | h1
      · exact h1
      · subst h1
        rw [hq] at h
        simp only [Option.some.injEq, Prod.mk.injEq] at h
        rw [← h.1] at hpt hti
        omega
      · have hs := seqN_sorted ts.length l0
        rw [List.pairwise_iff_getElem] at hs
        have e1 := List.getElem?_eq_some_iff.1 hj
        have e2 := List.getElem?_eq_some_iff.1 (run_mem h)
        have := hs i j e2.1 e1.1 h1
        rw [e1.2, e2.2] at this
        simp only at this
        omega
    refine ⟨j, p, q, hji, hq, hpi, ?_, hpt, hps⟩
    rw [hpa, ← hpi]
    have hfst : (pairsN ((runN (seqN ts.length l0)).take i)).map (·.1) = 0 :: ((seqN ts.length l0).take i).map (·.id) := by
      unfold pairsN
      rw [List.map_cons, List.map_map]
      congr 1
      have := congrArg (fun q => (q.take i).map (·.id)) (runN_fst (seqN ts.length l0))
      simp only [← List.map_take, List.map_map] at this
      exact this
    refine lk_get (i := j + 1) ?_ ?_
    · rw [hfst, List.nodup_cons]
      constructor
      · intro h0
        obtain ⟨n, hn, hn0⟩ := List.mem_map.1 h0
        have := (hR.note n ((seq_all hR hm).1 (List.mem_of_mem_take hn))).id1
        omega
      · exact ((List.take_sublist _ _).map _).nodup (seqN_nodup hnd _)
    · unfold pairsN
      rw [List.getElem?_cons_succ, List.getElem?_map, List.getElem?_take_of_lt hji, hq]
      simp only [Option.map_some]
      rw [runN_id hq]

include hnd in
theorem idx_of_id {i j : Nat} {a b c d : Nt} (h : (runN (seqN ts.length l0))[i]? = some (a, b)) (k : (runN (seqN ts.length l0))[j]? = some (c, d)) (e : a.id = c.id) : i = j := by
  have hn := seqN_nodup hnd ts.length
  have h1 := run_mem h
  have h2 := run_mem k
  rw [List.Nodup, List.pairwise_map, List.pairwise_iff_getElem] at hn
  have e1 := List.getElem?_eq_some_iff.1 h1
  have e2 := List.getElem?_eq_some_iff.1 h2
  rcases Nat.lt_trichotomy i j with hlt | hlt | hlt
  · have := hn i j e1.1 e2.1 hlt
    rw [e1.2, e2.2] at this
    exact absurd e this
  · exact hlt
  · have := hn j i e2.1 e1.1 hlt
    rw [e1.2, e2.2] at this
    exact absurd e.symm this

include hR hm hnd in
theorem pa_iff {i j : Nat} {a b c d : Nt} (h : (runN (seqN ts.length l0))[i]? = some (a, b)) (k : (runN (seqN ts.length l0))[j]? = some (c, d)) (e : a.ti = c.ti) : b.pa = d.pa ↔ a.pa = c.pa := by
  rcases par_idx hR hm hnd h with ⟨h1, h2, h3⟩ | ⟨h1, i', p, q, _, hp, h2, h3, _⟩ <;> rcases par_idx hR hm hnd k with ⟨k1, k2, k3⟩ | ⟨k1, j', r, s, _, hr, k2, k3, _⟩
  · rw [h2, h3, k2, k3]
  · rw [e] at h1; exact absurd h1 k1
  · rw [e] at h1; exact absurd k1 h1
  · rw [h3, k3, idOf_inj]
    constructor
    · intro e1
      subst e1
      rw [hp] at hr
      simp only [Option.some.injEq, Prod.mk.injEq] at hr
      rw [← h2, ← k2, hr.1]
    · intro e1
      exact idx_of_id hnd hp hr (by rw [h2, k2, e1])
end

/-- What a note needs to be added, and to be placed. -/
structure FineAt (TX : ByteArray → Prop) (len : Int) (ts : List Ti) (pre : List Nt) (m : Nt) : Prop where
  ti0 : 0 ≤ m.ti
  tiL : m.ti < ts.length
  tx : TX m.tx
  pa0 : 0 ≤ m.pa
  paL : m.pa ≤ 1000
  rk0 : 0 ≤ m.rk
  rkL : m.rk ≤ 14
  rk1 : (tierAt ts m.ti).kd ≠ 3 → m.rk = 0
  sp : alK (tierAt ts m.ti).kd = true → 0 ≤ m.fr ∧ m.fr < m.en ∧ m.en ≤ 86400000
  sp0 : alK (tierAt ts m.ti).kd = false → m.fr = 0 ∧ m.en = 0
  par0 : (tierAt ts m.ti).kd = 0 → m.pa = 0 ∧ m.en ≤ len
  par : (tierAt ts m.ti).kd ≠ 0 → ∃ p ∈ pre, p.id = m.pa ∧ p.ti = (tierAt ts m.ti).pa ∧ (alK (tierAt ts m.ti).kd = true → p.fr ≤ m.fr ∧ m.en ≤ p.en)
  over : alK (tierAt ts m.ti).kd = true → ∀ y ∈ pre, y.ti = m.ti → y.pa = m.pa → Apart y m
  lab : (tierAt ts m.ti).kd = 4 → ∀ y ∈ pre, ¬ (y.ti = m.ti ∧ y.pa = m.pa)

theorem perm_of_sub : ∀ {a b : List Int}, a.Nodup → (∀ x ∈ a, x ∈ b) → b.length ≤ a.length → a.Perm b
  | [], b, _, _, hl => by
    have : b = [] := List.eq_nil_of_length_eq_zero (by simpa using hl)
    rw [this]
  | x :: a, b, hn, hs, hl => by
    have hx := hs x (by simp)
    have hp := List.perm_cons_erase hx
    refine (List.Perm.cons x ?_).trans hp.symm
    rw [List.nodup_cons] at hn
    refine perm_of_sub hn.2 (fun y hy => ?_) ?_
    · have := hp.mem_iff.1 (hs y (by simp [hy]))
      rcases List.mem_cons.1 this with rfl | h
      · exact absurd hy hn.1
      · exact h
    · have := hp.length_eq
      simp only [List.length_cons] at this hl
      omega
theorem countP_range (m r : Nat) : (List.range m).countP (fun k : Nat => decide ((k : Int) < (r : Int))) = min m r := by
  induction m with
  | zero => simp
  | succ m ih =>
    rw [List.range_succ, List.countP_append, ih, List.countP_singleton]
    by_cases h : m < r
    · have : decide ((m : Int) < (r : Int)) = true := by simpa using h
      rw [this]; simp; omega
    · have : decide ((m : Int) < (r : Int)) = false := by simpa using h
      rw [this]; simp; omega

/-- The ranks of siblings are those of a range. -/
theorem ranks_perm {l : List Nt} (h : ∀ k : Nat, k < l.length → ∃ x ∈ l, x.rk = k) : ((List.range l.length).map fun k : Nat => (k : Int)).Perm (l.map (·.rk)) := by
  refine perm_of_sub ?_ ?_ (by simp)
  · rw [List.Nodup, List.pairwise_map]
    exact List.nodup_range.imp fun h => by omega
  · intro x hx
    obtain ⟨k, hk, rfl⟩ := List.mem_map.1 hx
    obtain ⟨y, hy, he⟩ := h k (List.mem_range.1 hk)
    exact List.mem_map.2 ⟨y, hy, he⟩
theorem ranks_count {l : List Nt} (h : ∀ k : Nat, k < l.length → ∃ x ∈ l, x.rk = k) {m : Nt} (hm : m ∈ l) : ∃ r : Nat, m.rk = r ∧ r < l.length ∧ l.countP (fun x => decide (x.rk < m.rk)) = r := by
  have hp := ranks_perm h
  have h1 := hp.mem_iff.2 (List.mem_map.2 ⟨m, hm, rfl⟩)
  obtain ⟨r, hr, he⟩ := List.mem_map.1 h1
  have hr := List.mem_range.1 hr
  refine ⟨r, he.symm, hr, ?_⟩
  have h2 := hp.countP_eq (fun k => decide (k < m.rk))
  rw [List.countP_map, List.countP_map] at h2
  have h3 : l.countP (fun x => decide (x.rk < m.rk)) = (List.range l.length).countP (fun k : Nat => decide ((k : Int) < (r : Int))) := by
    rw [← he] at h2
    rw [← he]
    exact h2.symm
  rw [h3, countP_range]
  omega
theorem ranks_inj {l : List Nt} (h : ∀ k : Nat, k < l.length → ∃ x ∈ l, x.rk = k) : (l.map (·.rk)).Nodup := by
  refine (ranks_perm h).nodup_iff.1 ?_
  rw [List.Nodup, List.pairwise_map]
  exact List.nodup_range.imp fun h => by omega

section
variable {TX : ByteArray → Prop} {len : Int} {ts : List Ti} {ns l0 : List Nt} (hR : RightD TX len ts ns) (hm : ∀ n, n ∈ l0 ↔ n ∈ ns) (hlen : l0.length = ns.length) (hnd : (l0.map (·.id)).Nodup)

theorem seqN_len : ∀ (T : Nat) (l : List Nt), (∀ n ∈ l, 0 ≤ n.ti ∧ n.ti < (T : Int)) → (seqN T l).length = l.length := by
  intro T l h
  have key : ∀ T : Nat, (seqN T l).length = l.countP (fun n => decide (0 ≤ n.ti ∧ n.ti < (T : Int))) := by
    intro T
    induction T with
    | zero =>
      rw [show seqN 0 l = [] from rfl]
      symm
      simp only [List.length_nil, List.countP_eq_zero, decide_eq_true_eq]
      intro a _ h; omega
    | succ T ih =>
      rw [seqN_succ, List.length_append, ih, ← List.countP_eq_length_filter]
      clear h ih
      induction l with
      | nil => rfl
      | cons x l ih =>
        simp only [List.countP_cons, decide_eq_true_eq, beq_iff_eq]
        by_cases h1 : 0 ≤ x.ti ∧ x.ti < T
        · rw [if_pos h1, if_neg (by omega), if_pos (by omega)]; omega
        · by_cases h2 : x.ti = (T : Int)
          · rw [if_neg h1, if_pos h2, if_pos (by omega)]; omega
          · rw [if_neg h1, if_neg h2, if_neg (by omega)]; omega
  rw [key, List.countP_eq_length]
  intro a ha
  simpa using h a ha

include hR hm hlen in
theorem run_len : (runN (seqN ts.length l0)).length = ns.length := by
  rw [runN_len, seqN_len, hlen]
  intro n hn
  have := hR.note n ((hm n).1 hn)
  exact ⟨this.ti0, this.tiL⟩

theorem new_same {l : List Nt} {i : Nat} {o m : Nt} (h : (runN l)[i]? = some (o, m)) : m.ti = o.ti ∧ m.fr = o.fr ∧ m.en = o.en ∧ m.rk = o.rk ∧ m.tx = o.tx := by
  have h := runN_get _ _ _ h
  simp only at h
  subst h
  exact ⟨rfl, rfl, rfl, rfl, rfl⟩

include hR hm hlen hnd in
theorem fine_at {i : Nat} {o m : Nt} (h : (runN (seqN ts.length l0))[i]? = some (o, m)) : FineAt TX len ts (((runN (seqN ts.length l0)).take i).map (·.2)) m := by
  obtain ⟨e1, e2, e3, e4, e5⟩ := new_same h
  have hon := (seq_all hR hm).1 (List.mem_of_getElem? (run_mem h))
  have ok := hR.note o hon
  have hi := (List.getElem?_eq_some_iff.1 h).1
  rw [run_len hR hm hlen] at hi
  have hfew := hR.few
  have hP := par_idx hR hm hnd h
  have old : ∀ y ∈ ((runN (seqN ts.length l0)).take i).map (·.2), y.ti = m.ti → y.pa = m.pa → ∃ x ∈ ns, x ≠ o ∧ x.ti = o.ti ∧ x.pa = o.pa ∧ y.fr = x.fr ∧ y.en = x.en := by
    intro y hy k1 k2
    obtain ⟨⟨x, y'⟩, hx, rfl⟩ := List.mem_map.1 hy
    obtain ⟨j, hj⟩ := List.getElem?_of_mem hx
    have hji : j < i := by
      have := (List.getElem?_eq_some_iff.1 hj).1
      rw [List.length_take] at this; omega
    rw [List.getElem?_take_of_lt hji] at hj
    obtain ⟨f1, f2, f3, _⟩ := new_same hj
    simp only at k1 k2
    have ht : x.ti = o.ti := by rw [← f1, k1, e1]
    have hxn := (seq_all hR hm).1 (List.mem_of_getElem? (run_mem hj))
    refine ⟨x, hxn, fun e => ?_, ht, (pa_iff hR hm hnd hj h ht).1 k2, f2, f3⟩
    have := idx_of_id hnd hj h (by rw [e])
    omega
  have sib : ∀ x ∈ ns, x.ti = o.ti → x.pa = o.pa → x ∈ sibs ns o.ti o.pa := fun x hx k1 k2 => by
    unfold sibs; rw [List.mem_filter]; exact ⟨hx, by simp [k1, k2]⟩
  have pw : ∀ {l : List Nt} {R : Nt → Nt → Prop}, (∀ a b, R a b → R b a) → l.Pairwise R → ∀ a ∈ l, ∀ b ∈ l, a ≠ b → R a b := by
    intro l R hs hp
    induction l with
    | nil => intro a ha; cases ha
    | cons x l ih =>
      rw [List.pairwise_cons] at hp
      intro a ha b hb hab
      rcases List.mem_cons.1 ha with r1 | r1 <;> rcases List.mem_cons.1 hb with r2 | r2
      · exact absurd (r1.trans r2.symm) hab
      · rw [r1]; exact hp.1 b r2
      · rw [r2]; exact hs _ _ (hp.1 a r1)
      · exact ih hp.2 a r1 b r2 hab
  refine ⟨?_, ?_, ?_, ?_, ?_, ?_, ?_, ?_, ?_, ?_, ?_, ?_, ?_, ?_⟩
  · rw [e1]; exact ok.ti0
  · rw [e1]; exact ok.tiL
  · rw [e5]; exact ok.tx
  · rcases hP with ⟨_, _, h3⟩ | ⟨_, j, p, q, _, _, _, h3, _⟩
    · rw [h3]; exact Int.le_refl 0
    · rw [h3]; exact Int.le_of_lt (idOf_pos j)
  · rcases hP with ⟨_, _, h3⟩ | ⟨_, j, p, q, hj, _, _, h3, _⟩
    · rw [h3]; decide
    · rw [h3]; unfold idOf; omega
  · rw [e4]; exact ok.rk0
  · rw [e4]
    by_cases h3 : (tierAt ts o.ti).kd = 3
    · obtain ⟨r, hr, hrl, _⟩ := ranks_count (hR.rank o hon h3) (sib o hon rfl rfl)
      have : (sibs ns o.ti o.pa).length ≤ ns.length := List.length_filter_le _ _
      omega
    · have := ok.rk1 h3; omega
  · rw [e1, e4]; exact ok.rk1
  · rw [e1, e2, e3]; exact ok.sp
  · rw [e1, e2, e3]; exact ok.sp0
  · rw [e1, e3]
    intro hk
    rcases hP with ⟨_, _, h3⟩ | ⟨h3, _⟩
    · exact ⟨h3, ok.len hk⟩
    · exact absurd hk h3
  · rw [e1, e2, e3]
    intro hk
    rcases hP with ⟨h3, _⟩ | ⟨_, j, p, q, hj, hq, h4, h5, h6, h7⟩
    · exact absurd h3 hk
    · obtain ⟨f1, f2, f3, _⟩ := new_same hq
      refine ⟨q, List.mem_map.2 ⟨(p, q), List.mem_of_getElem? (i := j) (by rw [List.getElem?_take_of_lt hj]; exact hq), rfl⟩, ?_, by rw [f1]; exact h6, by rw [f2, f3]; exact h7⟩
      rw [h5]; exact runN_id hq
  · rw [e1]
    intro hk y hy k1 k2
    obtain ⟨x, hx, hne, ht, hp, f2, f3⟩ := old y hy (k1.trans e1.symm) k2
    have := pw (fun _ _ => Apart.symm) (hR.over o hon hk) x (sib x hx ht hp) o (sib o hon rfl rfl) hne
    unfold Apart at this ⊢
    rw [f2, f3, e2, e3]; exact this
  · rw [e1]
    rintro hk y hy ⟨k1, k2⟩
    obtain ⟨x, hx, hne, ht, hp, _⟩ := old y hy (k1.trans e1.symm) k2
    have hl := hR.lab o hon hk
    have h1 := sib x hx ht hp
    have h2 := sib o hon rfl rfl
    cases hs : sibs ns o.ti o.pa with
    | nil => rw [hs] at h1; cases h1
    | cons a l =>
      rw [hs] at hl h1 h2
      cases l with
      | nil =>
        simp at h1 h2
        exact hne (h1.trans h2.symm)
      | cons b l => simp at hl

/-- Does it come before in the ranks of its siblings? -/
def befN (m x : Nt) : Bool := x.ti == m.ti && x.pa == m.pa && (decide (x.rk < m.rk) || x.rk == m.rk && decide (x.id < m.id))

include hR hm hlen hnd in
theorem rank_at {i : Nat} {o m : Nt} (h : (runN (seqN ts.length l0))[i]? = some (o, m)) (hk : (tierAt ts m.ti).kd = 3) : ((((runN (seqN ts.length l0)).map (·.2)).countP (befN m) : Nat) : Int) = m.rk := by
  obtain ⟨e1, e2, e3, e4, e5⟩ := new_same h
  have hon := (seq_all hR hm).1 (List.mem_of_getElem? (run_mem h))
  rw [e1] at hk
  have hr := hR.rank o hon hk
  have ho : o ∈ sibs ns o.ti o.pa := by unfold sibs; rw [List.mem_filter]; exact ⟨hon, by simp⟩
  obtain ⟨r, h1, h2, h3⟩ := ranks_count hr ho
  have hinj := ranks_inj hr
  have step : ((runN (seqN ts.length l0)).map (·.2)).countP (befN m) = (seqN ts.length l0).countP (fun x => x.ti == o.ti && x.pa == o.pa && decide (x.rk < o.rk)) := by
    rw [List.countP_map]
    conv => rhs; rw [← runN_fst (seqN ts.length l0), List.countP_map]
    refine List.countP_congr fun ⟨a, b⟩ hab => ?_
    obtain ⟨j, hj⟩ := List.getElem?_of_mem hab
    obtain ⟨f1, f2, f3, f4, f5⟩ := new_same hj
    simp only [Function.comp, befN, Bool.and_eq_true, Bool.or_eq_true, beq_iff_eq, decide_eq_true_eq]
    constructor
    · rintro ⟨⟨g1, g2⟩, g3⟩
      have ht : a.ti = o.ti := by rw [← f1, g1, e1]
      have hp := (pa_iff hR hm hnd hj h ht).1 g2
      refine ⟨⟨ht, hp⟩, ?_⟩
      rcases g3 with g3 | ⟨g3, g4⟩
      · rw [← f4, ← e4]; exact g3
      · exfalso
        have han := (seq_all hR hm).1 (List.mem_of_getElem? (run_mem hj))
        have ha : a ∈ sibs ns o.ti o.pa := by unfold sibs; rw [List.mem_filter]; exact ⟨han, by simp [ht, hp]⟩
        have hao : a = o := by
          have key : ∀ {l : List Nt}, (l.map (·.rk)).Nodup → a ∈ l → o ∈ l → a.rk = o.rk → a = o := by
            intro l
            induction l with
            | nil => intro _ h; cases h
            | cons x l ih =>
              intro hn m1 m2 he
              rw [List.map_cons, List.nodup_cons, List.mem_map] at hn
              rcases List.mem_cons.1 m1 with q1 | q1 <;> rcases List.mem_cons.1 m2 with q2 | q2
              · rw [q1, q2]
              · exact (hn.1 ⟨o, q2, by rw [← he, q1]⟩).elim
              · exact (hn.1 ⟨a, q1, by rw [he, q2]⟩).elim
              · exact ih hn.2 q1 q2 he
          exact key hinj ha ho (by rw [← f4, ← e4]; exact g3)
        have hij := idx_of_id hnd hj h (by rw [hao])
        subst hij
        rw [h] at hj
        simp only [Option.some.injEq, Prod.mk.injEq] at hj
        rw [hj.2] at g4
        omega
    · rintro ⟨⟨g1, g2⟩, g3⟩
      exact ⟨⟨by rw [f1, e1]; exact g1, (pa_iff hR hm hnd hj h g1).2 g2⟩, .inl (by rw [f4, e4]; exact g3)⟩
  have perm : (seqN ts.length l0).Perm ns := by
    have key : ∀ {a b : List Nt}, (a.map (·.id)).Nodup → (∀ x ∈ a, x ∈ b) → b.length ≤ a.length → a.Perm b := by
      intro a
      induction a with
      | nil => intro b _ _ hl; rw [List.eq_nil_of_length_eq_zero (l := b) (by simpa using hl)]
      | cons x a ih =>
        intro b hn hs hl
        have hx := hs x (by simp)
        obtain ⟨b1, b2, rfl⟩ := List.append_of_mem hx
        have hp : (b1 ++ x :: b2).Perm (x :: (b1 ++ b2)) := List.perm_middle
        refine (List.Perm.cons x ?_).trans hp.symm
        rw [List.map_cons, List.nodup_cons] at hn
        refine ih hn.2 (fun y hy => ?_) ?_
        · have := hp.mem_iff.1 (hs y (by simp [hy]))
          rcases List.mem_cons.1 this with rfl | h
          · exact (hn.1 (List.mem_map.2 ⟨y, hy, rfl⟩)).elim
          · exact h
        · have := hp.length_eq
          simp only [List.length_cons] at this hl
          omega
    refine key (seqN_nodup hnd _) (fun x hx => (seq_all hR hm).1 hx) ?_
    rw [seqN_len, hlen]
    · exact Nat.le_refl _
    · intro n hn
      have := hR.note n ((hm n).1 hn)
      exact ⟨this.ti0, this.tiL⟩
  have fin : ns.countP (fun x => x.ti == o.ti && x.pa == o.pa && decide (x.rk < o.rk)) = (sibs ns o.ti o.pa).countP (fun x => decide (x.rk < o.rk)) := by
    unfold sibs
    rw [List.countP_filter]
    refine List.countP_congr fun x _ => ?_
    simp only [Bool.and_eq_true, beq_iff_eq, decide_eq_true_eq]
    constructor
    · rintro ⟨⟨a, b⟩, c⟩; exact ⟨c, a, b⟩
    · rintro ⟨c, a, b⟩; exact ⟨⟨a, b⟩, c⟩
  rw [step, perm.countP_eq, fin, h3, e4, h1]
end
end Go.Eng

/- Texts (plain): bytes whose scalars are no controls are no controls. -/
namespace Go.Eng

def okB (b : UInt8) : Prop := 32 ≤ b.toNat ∧ b.toNat ≠ 127
def okP (p : Nat) : Prop := 32 ≤ p ∧ p ≠ 127
/-- Can it be the text of a note? -/
def TX (s : ByteArray) : Prop := s.size ≤ 200 ∧ (pts s.data.toList).isSome = true ∧ ∀ b ∈ s.data.toList, okB b

theorem encU_ok {p : Nat} (hs : scal p = true) (h : okP p) : ∀ b ∈ encU p, okB b := by
  have hp : p ≤ 1114111 := by
    simp only [scal, Bool.and_eq_true, decide_eq_true_eq] at hs; exact hs.1
  unfold okP at h
  unfold encU okB
  by_cases h1 : p < 128
  · rw [if_pos h1]
    intro b hb
    simp only [List.mem_singleton] at hb
    subst hb
    simp; omega
  · rw [if_neg h1]
    by_cases h2 : p < 2048
    · rw [if_pos h2]
      intro b hb
      simp only [List.mem_cons, List.not_mem_nil, or_false] at hb
      rcases hb with rfl | rfl <;> simp <;> omega
    · rw [if_neg h2]
      by_cases h3 : p < 65536
      · rw [if_pos h3]
        intro b hb
        simp only [List.mem_cons, List.not_mem_nil, or_false] at hb
        rcases hb with rfl | rfl | rfl <;> simp <;> omega
      · rw [if_neg h3]
        intro b hb
        simp only [List.mem_cons, List.not_mem_nil, or_false] at hb
        rcases hb with rfl | rfl | rfl | rfl <;> simp <;> omega

theorem fstU_ok {c : UInt8} {l : List UInt8} {p n : Nat} (h : fstU (c :: l) = some (p, n)) (hp : okP p) : ∀ b ∈ (c :: l).take n, okB b := by
  rw [fstU] at h
  split at h
  · cases h
  · split at h
    · rename_i hc
      injection h with h; injection h with e1 e2
      rw [e1, e2] at hc
      rw [← hc.2]
      exact encU_ok hc.1 hp
    · cases h

theorem ptsU_ok : ∀ (k : Nat) (l : List UInt8) (ps : List Nat), l.length ≤ k → pts l = some ps → (∀ p ∈ ps, okP p) → ∀ b ∈ l, okB b := by
  intro k
  induction k with
  | zero =>
    intro l ps hl _ _ b hb
    rw [List.eq_nil_of_length_eq_zero (l := l) (by omega)] at hb
    cases hb
  | succ k ih =>
    intro l ps hl h hp b hb
    cases l with
    | nil => cases hb
    | cons c l =>
      cases hf : fstU (c :: l) with
      | none => rw [pts_none hf] at h; cases h
      | some pn =>
        obtain ⟨p, n⟩ := pn
        have hn := fstU_n hf
        rw [pts_some hf] at h
        cases hr : pts ((c :: l).drop n) with
        | none => rw [hr] at h; cases h
        | some qs =>
          rw [hr] at h
          injection h with h
          subst h
          rw [← List.take_append_drop n (c :: l)] at hb
          rcases List.mem_append.1 hb with hb | hb
          · exact fstU_ok hf (hp p (by simp)) b hb
          · refine ih _ qs ?_ hr (fun q hq => hp q (by simp [hq])) b hb
            rw [List.length_drop]
            omega
theorem ptsU_len : ∀ (k : Nat) (l : List UInt8) (ps : List Nat), l.length ≤ k → pts l = some ps → ps.length ≤ l.length := by
  intro k
  induction k with
  | zero =>
    intro l ps hl h
    rw [List.eq_nil_of_length_eq_zero (l := l) (by omega)] at h ⊢
    rw [pts_nil] at h
    injection h with h; subst h; simp
  | succ k ih =>
    intro l ps hl h
    cases l with
    | nil => rw [pts_nil] at h; injection h with h; subst h; simp
    | cons c l =>
      cases hf : fstU (c :: l) with
      | none => rw [pts_none hf] at h; cases h
      | some pn =>
        obtain ⟨p, n⟩ := pn
        have hn := fstU_n hf
        rw [pts_some hf] at h
        cases hr : pts ((c :: l).drop n) with
        | none => rw [hr] at h; cases h
        | some qs =>
          rw [hr] at h
          injection h with h
          subst h
          have := ih _ qs (by rw [List.length_drop]; omega) hr
          rw [List.length_drop] at this
          simp only [List.length_cons] at this hn ⊢
          omega
end Go.Eng

/- Rebuilds: what the reference's check of tiers tells. -/
namespace Go.Eng
open Go.Proofs
theorem EvV.ex {X : Ctx} {f : FuncId} {args : List AV} {R : AV → Prop} (h : EvV X f args R) : ∃ r, R r ∧ EvV X f args (· = r) := by
  obtain ⟨n, r, h1, h2⟩ := h
  exact ⟨r, h2, n, r, h1, rfl⟩
set_option linter.unusedSimpArgs false
set_option linter.unusedVariables false
attribute [local irreducible] wpC wpO wp1 EvV EvR wpL
attribute [local go_sem] ty3 ty4 ty9 ty25 ty34 ty53 br62 br63 br64 br65 allocK fz75 fz84 fz86 fz88 br42 fz92 reduceIte Nat.reduceAdd Nat.reduceEqDiff Nat.reduceLT Nat.reduceLeDiff beq_iff_eq beq_eq_false_iff_ne Int.natCast_inj Bool.not_eq_false' op1_go wpK_box wpK_alloc wpK_load wpK_store wpK_binOp wpK_unOp wpK_fieldAddr wpK_field wpK_build wpK_indexAddr wpK_slice wpK_len wpK_extract wpK_nilCheck wpK_pick wpK_makeFunc wpK_call wpK_callT wpK_max wpK_min wpK_assignT wpK_moveT wpK_assignB wpK_moveB wpK_assignI wpK_moveI wpK_assignA wpK_moveA callK_fn snapL_nil snapL_cons snap_int snap_bool snap_str snap_tsl snap_agg snap_fn snap_flat adopt_int adopt_bool adopt_str adopt_agg adopt_osl adopt_tsl adopt_tup op1_guard grdK_bool grdK_undef condK_bool someK_some pairK_some nilK_ptr nilK_tptr boxK storeK evalA_tmp evalA_int evalA_bool evalA_agg evalA_fn evalA_nil ofC_int ofC_bool getA_zero getA_succ cells_int cells_agg cells_bool cells_sl cells_tsl cell_int cell_bool cell_str cell_sl cell_esl cell_tsl cell_ptr cell_tptr cell_fn cell_nils cell_nilf List.all_cons List.all_nil Bool.and_true Bool.and_self Bool.true_and putA_some putA_none List.set_cons_zero List.set_cons_succ List.length_cons List.length_nil List.nil_append List.cons_append stabL AV.stab fieldAddrA fieldA List.getElem?_cons_zero List.getElem?_cons_succ Nat.zero_add loadA rowOf Nat.le_refl and_self true_and and_true partA binA unA intBin eqBin eqCells eqCell Option.bind_some decide_true decide_false decide_eq_true_eq ite_not Bool.not_eq_true' decide_eq_false_iff_not Bool.false_eq_true Option.map_some Option.map_none Bool.not_true Bool.not_false buildA fillA patch List.take List.drop List.map_cons List.map_nil extK List.getD_cons_zero List.getD_cons_succ minmaxA minmaxGo adoptZ_false adoptZ_true freeze_int freeze_bool freeze_str freeze_flat freeze_agg freeze_osl freeze_tsl freeze_tup frz1_bool frz1_int frz1_str frz1_agg frz1_osl frz1_tsl bne Bool.false_and Bool.and_false ne_eq not_true_eq_false not_false_eq_true List.append_nil resultsR resultsL resultA expK_int expK_bool expK_str expK_agg expK_own expK_tsl resK_some latK_false latK_true latP_store latP_move latP_assign latP_pick latP_nilCheck latP_makeInterface latP_binOp latP_unOp latP_convert latP_build latP_field latP_fieldAddr latP_indexAddr latP_index latP_slice latP_makeFunc latP_extract latP_call latP_load latP_alloc latP_box latP_buildSlice latP_makeSlice latP_makeMap latP_lookup latP_mapUpdate latP_range latP_next latP_entry nestNo wpK_lookup wpK_range wpK_next wpK_entry wpK_makeMap wpK_mapUpdate cell_mp
set_option maxHeartbeats 4000000

theorem map_midV {β : Type} (f : β → List AV) (pre : List β) (x : β) (post : List β) : ((pre ++ x :: post).map f)[pre.length]? = some (f x) := by simp
def encT (t : Ti) : List AV := [.str t.nm, .int .i64 t.kd, .int .i64 t.ro, .int .i64 t.pa]
def encN (n : Nt) : List AV := [.int .i64 n.id, .int .i64 n.ti, .int .i64 n.pa, .int .i64 n.fr, .int .i64 n.en, .int .i64 n.rk, .str n.tx]

theorem timedE (k : Int) : EvV CX 63 [.int .i64 k] (· = .bool (alK k)) := by
  refine EvV.walk rfl fn63 rfl nt63 rfl ?_
  simp only [List.length_cons, List.length_nil, List.cons_append, List.nil_append, Nat.reduceAdd, Nat.reduceSub, List.replicate]
  repeat' (first | refine go1 ?_ | refine blockK_else rfl ?_ | (refine go2 fun A B a b => ?_; simp only [go_sem, *]; (repeat' first | apply a.1 | apply b.1 | refine iteI (fun h => ?_) fun h => ?_) <;> clear a b A B))
  all_goals simp only [go_sem]
  all_goals simp [alK, *]
theorem alignedE (k : Int) : EvV CX 46 [.int .i64 k] (· = .bool (alK k)) := by
  refine EvV.walk rfl fn46 rfl nt46 rfl ?_
  simp only [List.length_cons, List.length_nil, List.cons_append, List.nil_append, Nat.reduceAdd, Nat.reduceSub, List.replicate]
  repeat' (first | refine go1 ?_ | refine blockK_else rfl ?_ | (refine go2 fun A B a b => ?_; simp only [go_sem, *]; (repeat' first | apply a.1 | apply b.1 | refine iteI (fun h => ?_) fun h => ?_) <;> clear a b A B))
  all_goals simp only [go_sem]
  all_goals simp [alK, *]
theorem kindE (k : Int) : ∃ r, EvV CX 64 [.int .i64 k] (· = .int .i64 r) := by
  suffices h : EvV CX 64 [.int .i64 k] (fun v => ∃ r, v = .int .i64 r) by
    obtain ⟨r, ⟨b, rfl⟩, h⟩ := h.ex
    exact ⟨b, h⟩
  refine EvV.walk rfl fn64 rfl nt64 rfl ?_
  simp only [List.length_cons, List.length_nil, List.cons_append, List.nil_append, Nat.reduceAdd, Nat.reduceSub, List.replicate]
  repeat' (first | refine go1 ?_ | refine blockK_else rfl ?_ | (refine go2 fun A B a b => ?_; simp only [go_sem, *]; (repeat' first | apply a.1 | apply b.1 | refine iteI (fun h => ?_) fun h => ?_) <;> clear a b A B))
  all_goals simp only [go_sem]
  all_goals exact ⟨_, rfl⟩
theorem overE (k : Int) : ∃ r, EvV CX 65 [.int .i64 k] (· = .int .i64 r) := by
  suffices h : EvV CX 65 [.int .i64 k] (fun v => ∃ r, v = .int .i64 r) by
    obtain ⟨r, ⟨b, rfl⟩, h⟩ := h.ex
    exact ⟨b, h⟩
  refine EvV.walk rfl fn65 rfl nt65 rfl ?_
  simp only [List.length_cons, List.length_nil, List.cons_append, List.nil_append, Nat.reduceAdd, Nat.reduceSub, List.replicate]
  repeat' (first | refine go1 ?_ | refine blockK_else rfl ?_ | (refine go2 fun A B a b => ?_; simp only [go_sem, *]; (repeat' first | apply a.1 | apply b.1 | refine iteI (fun h => ?_) fun h => ?_) <;> clear a b A B))
  all_goals simp only [go_sem]
  all_goals exact ⟨_, rfl⟩
/-- A tier's parent stands ahead of it. -/
def tierP (i : Nat) (t : Ti) : Prop := t.kd ≠ 0 → 0 ≤ t.pa ∧ t.pa < i

theorem tierE {v : AV} {l pre post : List Ti} {t : Ti} (hv : SLs 4 (l.map encT) v) (hl : l = pre ++ t :: post) (hlen : l.length ≤ 12) (hn : ∀ x ∈ l, x.nm.size ≤ 9223372036854775807) :
    ∃ e, (e = 0 → tierP pre.length t) ∧ EvV CX 42 [v, .int .i64 pre.length] (· = .int .i64 e) := by
  suffices h : EvV CX 42 [v, .int .i64 pre.length] (fun r => ∃ e, r = .int .i64 e ∧ (e = 0 → tierP pre.length t)) by
    obtain ⟨r, ⟨b, rfl, hb⟩, h⟩ := h.ex
    exact ⟨b, hb, h⟩
  have c1 := hv.cell
  have i0 := idx_sls hv (X := CX) ty25 ty53 rfl (n := pre.length) (row := encT t) (k := .i64) (by rw [hl]; exact map_midV encT pre t post)
  have qn := (nameR t.nm (hn t (by rw [hl]; simp))).rw
  obtain ⟨rk, qk⟩ := kindE t.ro
  obtain ⟨ro, qo⟩ := overE t.ro
  have qk := qk.rw
  have qo := qo.rw
  have qt := (timedE t.kd).rw
  have hpl : pre.length < 12 := by rw [hl] at hlen; simp at hlen; omega
  -- elements ahead
  have ahead : ∀ k : Nat, k < pre.length → ∃ y : Ti, indexAddrA CX 25 v (.int .i64 k) = some (.tptr (stOf v) (encT y) 0) := fun k hk => by
    have h2 : (l.map encT)[k]? = some (encT (pre[k])) := by
      rw [hl, List.getElem?_map, List.getElem?_append_left hk, List.getElem?_eq_getElem hk]; rfl
    exact ⟨_, idx_sls hv (X := CX) ty25 ty53 rfl h2⟩
  have hah : Hold (∀ k : Nat, k < pre.length → ∃ y : Ti, indexAddrA CX 25 v (.int .i64 k) = some (.tptr (stOf v) (encT y) 0)) := ⟨ahead⟩
  have hpH : Hold (pre.length < 12) := ⟨hpl⟩
  clear hl hlen hn ahead hpl
  obtain ⟨P, hP⟩ : ∃ P, pre.length = P := ⟨_, rfl⟩
  rw [hP] at i0 hah hpH ⊢
  clear hP
  refine EvV.walk rfl fn42 rfl nt42 rfl ?_
  simp only [List.length_cons, List.length_nil, List.cons_append, List.nil_append, Nat.reduceAdd, Nat.reduceSub, List.replicate]
  repeat' (first | refine go1 ?_ | refine blockK_else rfl ?_ | (refine go2 fun A B a b => ?_; simp only [go_sem, *, encT, i0, qn]; (repeat' first | apply a.1 | apply b.1 | refine iteI (fun h => ?_) fun h => ?_) <;> clear a b A B))
  · simp only [go_sem]
    exact ⟨_, rfl, fun h => by cases h⟩
  refine wpC_loopF [4, 17, 18, 19, 20, 21, 22, 23, 24, 25, 26, 27, 28, 29] (fun a : Nat => [(6, .int .i64 (a : Int))]) (fun _ G => .arr [encT t] 4 1 true :: G) (fun a => a ≤ P) (fun a => P - a) 0 (Nat.zero_le _) ?_ ⟨[], rfl⟩ ?_
  · ((try simp only [eraseA_cons, eraseA_nil, setL_cons, setL_nil, List.set_cons_zero, List.set_cons_succ]); all_goals (first | rfl | (simp only [len_snoc, ints_len, List.length_map, ]; done) | (simp only [len_snoc, len_mid, ints_len, List.length_map, List.length_append, List.length_cons, List.length_nil, Nat.zero_add, ]; first | done | rfl)))
  intro a g G ha
  have ha : a ≤ P := ha
  by_cases hlt : a < P
  · have lt1 : (a : Int) < (P : Int) := by omega
    have w1 := wrap_succ (n := a) (by have := hpH.out; omega)
    obtain ⟨y, iy⟩ := hah.out a hlt
    have hm : Hold (P - (a + 1) < P - a ∧ a + 1 ≤ P) := ⟨by omega⟩
    clear ha hlt
    simp only [garbA_cons, garbA_nil, setL_cons, setL_nil, List.set_cons_zero, List.set_cons_succ]
    repeat' (first | refine go1 ?_ | refine blockK_else rfl ?_ | (refine go2 fun A B a b => ?_; simp only [go_sem, *, encT, lt1, w1, iy, strBin]; (repeat' first | apply a.1 | apply b.1 | refine iteI (fun h => ?_) fun h => ?_) <;> clear a b A B))
    · simp only [go_sem]
      exact ⟨_, rfl, fun h => by cases h⟩
    · refine loopF_next (a + 1) hm.out.1 hm.out.2 ?_ ?_
      · ((try simp only [eraseA_cons, eraseA_nil, setL_cons, setL_nil, List.set_cons_zero, List.set_cons_succ]); all_goals (first | rfl | (simp only [len_snoc, ints_len, List.length_map, ]; done) | (simp only [len_snoc, len_mid, ints_len, List.length_map, List.length_append, List.length_cons, List.length_nil, Nat.zero_add, ]; first | done | rfl)))
      · exact ⟨_, rfl⟩
  have hPa : a = P := by omega
  subst hPa
  clear ha hlt
  simp only [garbA_cons, garbA_nil, setL_cons, setL_nil, List.set_cons_zero, List.set_cons_succ]
  repeat' (first | refine go1 ?_ | refine blockK_else rfl ?_ | (refine go2 fun A B a b => ?_; simp only [go_sem, *, encT, Int.lt_irrefl, i0]; (repeat' first | apply a.1 | apply b.1 | refine iteI (fun h => ?_) fun h => ?_) <;> clear a b A B))
  · simp only [go_sem]
    exact ⟨_, rfl, fun h => by cases h⟩
  · simp only [go_sem]
    exact ⟨_, rfl, fun h => by cases h⟩
  · simp only [go_sem]
    exact ⟨_, rfl, fun h => by cases h⟩
  · simp only [go_sem]
    exact ⟨_, rfl, fun h => by cases h⟩
  refine wpC_loopF [4, 46, 47, 48, 49, 50, 51, 52, 53, 54, 55, 56, 57, 58, 59, 60, 61, 62, 63] (fun b : Nat => [(7, .int .i64 (b : Int))]) (fun _ G => .arr [encT t] 4 1 true :: G) (fun b => b ≤ a) (fun b => a - b) 0 (Nat.zero_le _) ?_ ⟨_, rfl⟩ ?_
  · ((try simp only [eraseA_cons, eraseA_nil, setL_cons, setL_nil, List.set_cons_zero, List.set_cons_succ]); all_goals (first | rfl | (simp only [len_snoc, ints_len, List.length_map, ]; done) | (simp only [len_snoc, len_mid, ints_len, List.length_map, List.length_append, List.length_cons, List.length_nil, Nat.zero_add, ]; first | done | rfl)))
  intro b g1 G1 hb
  have hb : b ≤ a := hb
  by_cases hlt : b < a
  · have lt1 : (b : Int) < (a : Int) := by omega
    have w1 := wrap_succ (n := b) (by have := hpH.out; omega)
    obtain ⟨y, iy⟩ := hah.out b hlt
    have hm : Hold (a - (b + 1) < a - b ∧ b + 1 ≤ a) := ⟨by omega⟩
    clear hb hlt
    cases k0 : (t.ro == 0) with
    | true =>
      simp only [garbA_cons, garbA_nil, setL_cons, setL_nil, List.set_cons_zero, List.set_cons_succ]
      repeat' (first | refine go1 ?_ | refine blockK_else rfl ?_ | (refine go2 fun A B a b => ?_; simp only [go_sem, *, encT, lt1, w1, iy, k0]; (repeat' first | apply a.1 | apply b.1 | refine iteI (fun h => ?_) fun h => ?_) <;> clear a b A B))
      refine loopF_next (b + 1) hm.out.1 hm.out.2 ?_ ?_
      · ((try simp only [eraseA_cons, eraseA_nil, setL_cons, setL_nil, List.set_cons_zero, List.set_cons_succ]); all_goals (first | rfl | (simp only [len_snoc, ints_len, List.length_map, ]; done) | (simp only [len_snoc, len_mid, ints_len, List.length_map, List.length_append, List.length_cons, List.length_nil, Nat.zero_add, ]; first | done | rfl)))
      · exact ⟨_, rfl⟩
    | false =>
      cases k1 : (y.ro == t.ro) with
      | true =>
        simp only [garbA_cons, garbA_nil, setL_cons, setL_nil, List.set_cons_zero, List.set_cons_succ]
        repeat' (first | refine go1 ?_ | refine blockK_else rfl ?_ | (refine go2 fun A B a b => ?_; simp only [go_sem, *, encT, lt1, w1, iy, k0, k1]; (repeat' first | apply a.1 | apply b.1 | refine iteI (fun h => ?_) fun h => ?_) <;> clear a b A B))
        simp only [go_sem]
        exact ⟨_, rfl, fun h => by cases h⟩
      | false =>
        simp only [garbA_cons, garbA_nil, setL_cons, setL_nil, List.set_cons_zero, List.set_cons_succ]
        repeat' (first | refine go1 ?_ | refine blockK_else rfl ?_ | (refine go2 fun A B a b => ?_; simp only [go_sem, *, encT, lt1, w1, iy, k0, k1]; (repeat' first | apply a.1 | apply b.1 | refine iteI (fun h => ?_) fun h => ?_) <;> clear a b A B))
        refine loopF_next (b + 1) hm.out.1 hm.out.2 ?_ ?_
        · ((try simp only [eraseA_cons, eraseA_nil, setL_cons, setL_nil, List.set_cons_zero, List.set_cons_succ]); all_goals (first | rfl | (simp only [len_snoc, ints_len, List.length_map, ]; done) | (simp only [len_snoc, len_mid, ints_len, List.length_map, List.length_append, List.length_cons, List.length_nil, Nat.zero_add, ]; first | done | rfl)))
        · exact ⟨_, rfl⟩
  have hba : b = a := by omega
  subst hba
  clear hb hlt
  by_cases kk : t.kd = 0
  · have hT : Hold (tierP b t) := ⟨fun h => absurd kk h⟩
    simp only [garbA_cons, garbA_nil, setL_cons, setL_nil, List.set_cons_zero, List.set_cons_succ]
    repeat' (first | refine go1 ?_ | refine blockK_else rfl ?_ | (refine go2 fun A B a b => ?_; simp only [go_sem, *, encT, Int.lt_irrefl, kk, qk, qo, qt]; (repeat' first | apply a.1 | apply b.1 | refine iteI (fun h => ?_) fun h => ?_) <;> clear a b A B))
    all_goals
      simp only [go_sem]
      exact ⟨_, rfl, fun _ => hT.out⟩
  · by_cases k0 : t.pa < 0
    · simp only [garbA_cons, garbA_nil, setL_cons, setL_nil, List.set_cons_zero, List.set_cons_succ]
      repeat' (first | refine go1 ?_ | refine blockK_else rfl ?_ | (refine go2 fun A B a b => ?_; simp only [go_sem, *, encT, Int.lt_irrefl, kk, k0]; (repeat' first | apply a.1 | apply b.1 | refine iteI (fun h => ?_) fun h => ?_) <;> clear a b A B))
      simp only [go_sem]
      exact ⟨_, rfl, fun h => by cases h⟩
    · by_cases k1 : (b : Int) ≤ t.pa
      · simp only [garbA_cons, garbA_nil, setL_cons, setL_nil, List.set_cons_zero, List.set_cons_succ]
        repeat' (first | refine go1 ?_ | refine blockK_else rfl ?_ | (refine go2 fun A B a b => ?_; simp only [go_sem, *, encT, Int.lt_irrefl, kk, k0, k1]; (repeat' first | apply a.1 | apply b.1 | refine iteI (fun h => ?_) fun h => ?_) <;> clear a b A B))
        simp only [go_sem]
        exact ⟨_, rfl, fun h => by cases h⟩
      · have hT : Hold (tierP b t) := ⟨fun _ => by omega⟩
        obtain ⟨y, iy⟩ := hah.out t.pa.toNat (by omega)
        rw [show ((t.pa.toNat : Nat) : Int) = t.pa by omega] at iy
        have qy := (timedE y.kd).rw
        simp only [garbA_cons, garbA_nil, setL_cons, setL_nil, List.set_cons_zero, List.set_cons_succ]
        repeat' (first | refine go1 ?_ | refine blockK_else rfl ?_ | (refine go2 fun A B a b => ?_; simp only [go_sem, *, encT, Int.lt_irrefl, kk, k0, k1, qk, qo, qt, iy, qy]; (repeat' first | apply a.1 | apply b.1 | refine iteI (fun h => ?_) fun h => ?_) <;> clear a b A B))
        all_goals
          simp only [go_sem]
          exact ⟨_, rfl, fun _ => hT.out⟩

theorem checkE {v : AV} {l : List Ti} (hv : SLs 4 (l.map encT) v) (hlen : l.length ≤ 9223372036854775807) (hn : ∀ x ∈ l, x.nm.size ≤ 9223372036854775807) :
    ∃ e, (e = 0 → ∀ (i : Nat) t, l[i]? = some t → tierP i t) ∧ EvV CX 29 [v] (· = .int .i64 e) := by
  suffices h : EvV CX 29 [v] (fun r => ∃ e, r = .int .i64 e ∧ (e = 0 → ∀ (i : Nat) t, l[i]? = some t → tierP i t)) by
    obtain ⟨r, ⟨b, rfl, hb⟩, h⟩ := h.ex
    exact ⟨b, hb, h⟩
  have n1 := hv.snap
  by_cases k12 : (12 : Int) < (l.length : Int)
  · refine EvV.walk rfl fn29 rfl nt29 rfl ?_
    simp only [List.length_cons, List.length_nil, List.cons_append, List.nil_append, Nat.reduceAdd, Nat.reduceSub, List.replicate]
    repeat' (first | refine go1 ?_ | refine blockK_else rfl ?_ | (refine go2 fun A B a b => ?_; simp only [go_sem, *, lenK_sls hv, List.length_map]; (repeat' first | apply a.1 | apply b.1 | refine iteI (fun h => ?_) fun h => ?_) <;> clear a b A B))
    simp only [go_sem]
    exact ⟨_, rfl, fun h => by cases h⟩
  have hl12 : Hold (l.length ≤ 12) := ⟨by omega⟩
  refine EvV.walk rfl fn29 rfl nt29 rfl ?_
  simp only [List.length_cons, List.length_nil, List.cons_append, List.nil_append, Nat.reduceAdd, Nat.reduceSub, List.replicate]
  repeat' (first | refine go1 ?_ | refine blockK_else rfl ?_ | (refine go2 fun A B a b => ?_; simp only [go_sem, *, lenK_sls hv, List.length_map]; (repeat' first | apply a.1 | apply b.1 | refine iteI (fun h => ?_) fun h => ?_) <;> clear a b A B))
  refine wpC_each [2, 4, 8, 9, 10, 11, 12, 13, 14, 15, 16, 17, 18, 19] 3 l (fun pre _ => ∀ (i : Nat) t, pre[i]? = some t → tierP i t) ?_ ?_ ?_ ?_
  · intro i t h; simp at h
  · ((try simp only [eraseA_cons, eraseA_nil, setL_cons, setL_nil, List.set_cons_zero, List.set_cons_succ]); all_goals (first | rfl | (simp only [len_snoc, ints_len, List.length_map, ]; done) | (simp only [len_snoc, len_mid, ints_len, List.length_map, List.length_append, List.length_cons, List.length_nil, Nat.zero_add, ]; first | done | rfl)))
  · intro g G hP
    have hPH : Hold (∀ (i : Nat) t, l[i]? = some t → tierP i t) := ⟨hP⟩
    clear hP
    simp only [garbA_cons, garbA_nil, setL_cons, setL_nil, List.set_cons_zero, List.set_cons_succ]
    repeat' (first | refine go1 ?_ | refine blockK_else rfl ?_ | (refine go2 fun A B a b => ?_; simp only [go_sem, *, lenK_sls hv, List.length_map, Int.lt_irrefl]; (repeat' first | apply a.1 | apply b.1 | refine iteI (fun h => ?_) fun h => ?_) <;> clear a b A B))
    simp only [go_sem]
    exact ⟨_, rfl, fun _ => hPH.out⟩
  · intro g G pre x post h1 hP
    have hPH : Hold (∀ (i : Nat) t, pre[i]? = some t → tierP i t) := ⟨hP⟩
    have hpl : pre.length < l.length := by rw [h1]; simp
    have lt1 : (pre.length : Int) < (l.length : Int) := by omega
    have w1 := wrap_succ (n := pre.length) (by omega)
    obtain ⟨e, he, q⟩ := tierE hv h1 hl12.out hn
    have q := q.rw
    have hh1 : Hold (l = pre ++ x :: post) := ⟨h1⟩
    clear h1 hP hpl
    by_cases k0 : e = 0
    · have hx : Hold (tierP pre.length x) := ⟨he k0⟩
      clear he
      simp only [garbA_cons, garbA_nil, setL_cons, setL_nil, List.set_cons_zero, List.set_cons_succ]
      repeat' (first | refine go1 ?_ | refine blockK_else rfl ?_ | (refine go2 fun A B a b => ?_; simp only [go_sem, *, lenK_sls hv, List.length_map, lt1, w1, q, n1, k0]; (repeat' first | apply a.1 | apply b.1 | refine iteI (fun h => ?_) fun h => ?_) <;> clear a b A B))
      refine each_next hh1.out ?_ ?_ ?_
      · intro i t hi
        by_cases hip : i < pre.length
        · rw [List.getElem?_append_left hip] at hi
          exact hPH.out i t hi
        · rw [List.getElem?_append_right (by omega)] at hi
          have h0 : i - pre.length = 0 := by
            cases hk : i - pre.length with
            | zero => rfl
            | succ k => rw [hk] at hi; simp at hi
          rw [h0] at hi
          simp at hi
          subst hi
          have : i = pre.length := by omega
          rw [this]; exact hx.out
      · ((try simp only [eraseA_cons, eraseA_nil, setL_cons, setL_nil, List.set_cons_zero, List.set_cons_succ]); all_goals (first | rfl | (simp only [len_snoc, ints_len, List.length_map, ]; done) | (simp only [len_snoc, len_mid, ints_len, List.length_map, List.length_append, List.length_cons, List.length_nil, Nat.zero_add, ]; first | done | rfl)))
      · first | exact ⟨[], (List.append_nil _).symm⟩ | exact ⟨_, rfl⟩ | (simp only [List.append_assoc, List.cons_append, List.nil_append]; exact ⟨_, rfl⟩)
    · clear he
      simp only [garbA_cons, garbA_nil, setL_cons, setL_nil, List.set_cons_zero, List.set_cons_succ]
      repeat' (first | refine go1 ?_ | refine blockK_else rfl ?_ | (refine go2 fun A B a b => ?_; simp only [go_sem, *, lenK_sls hv, List.length_map, lt1, w1, q, n1, k0]; (repeat' first | apply a.1 | apply b.1 | refine iteI (fun h => ?_) fun h => ?_) <;> clear a b A B))
      simp only [go_sem]
      exact ⟨_, rfl, fun h => absurd h k0⟩
end Go.Eng

/- Conversions between numbers, and from bytes to a string. -/
namespace Go.Eng
open Go.RowKit

def cvtK (v : AV) (k : IntKind) (dst : Option Tmp) (K : List AV → Store → Prop) (fr : List AV) (S : Store) (P : Prop) : Prop :=
  match v with
  | .int _ n => K (putA fr dst (.int k (k.wrap n))) S
  | _ => P
theorem cvtK_int {k k' : IntKind} {n : Int} {dst : Option Tmp} {K : List AV → Store → Prop} {fr : List AV} {S : Store} {P : Prop} : cvtK (.int k' n) k dst K fr S P = K (putA fr dst (.int k (k.wrap n))) S := rfl
theorem wpK_cvt {X : Ctx} {d : Bool} {dst : Option Tmp} {ty : TypeId} {pos : String} {after : Array Edge} {g : Option (Nat × Bool)} {K : List AV → Store → Prop} {fr : List AV} {S : Store} {s t : TypeId} {x : Operand} {i j : TyI} {k : IntKind} (hs : X.ty s = some j) (ht : X.ty t = some i) (hk : i.desc = .int k) :
    wpK X d ⟨dst, .convert s t x, ty, pos, after, g⟩ dst K fr S = cvtK (evalA fr x) k dst K fr S (wp1 X d ⟨dst, .convert s t x, ty, pos, after, g⟩ (fun v S' => K (putA fr dst v) S') fr S) := by
  obtain ⟨a, b, c, e, f⟩ := i
  simp only at hk; subst hk
  unfold cvtK
  split
  · rename_i k' n hv
    unfold wpK wp1
    simp only [popA, convA, hs, ht, hv]
  · unfold wpK; rfl

def bsK (y : AV) (dst : Option Tmp) (K : List AV → Store → Prop) (fr : List AV) (S : Store) (P : Prop) : Prop :=
  match y with
  | .sl b e off len sz => match rowsOf S 1 (.sl b e off len sz) with
    | some (rows, _) => match bytesOf rows with
      | some l => K (putA fr dst (.str ⟨l.toArray⟩)) S
      | none => False
    | none => False
  | .tsl st sz rows => match rowsOf S 1 (.tsl st sz rows) with
    | some (rows, _) => match bytesOf rows with
      | some l => K (putA fr dst (.str ⟨l.toArray⟩)) S
      | none => False
    | none => False
  | _ => P
theorem bsK_sl {b e off len sz : Nat} {dst : Option Tmp} {K : List AV → Store → Prop} {fr : List AV} {S : Store} {P : Prop} : bsK (.sl b e off len sz) dst K fr S P = match rowsOf S 1 (.sl b e off len sz) with
    | some (rows, _) => match bytesOf rows with
      | some l => K (putA fr dst (.str ⟨l.toArray⟩)) S
      | none => False
    | none => False := rfl
theorem wpK_bs {X : Ctx} {d : Bool} {dst : Option Tmp} {ty : TypeId} {pos : String} {after : Array Edge} {g : Option (Nat × Bool)} {K : List AV → Store → Prop} {fr : List AV} {S : Store} {s t el : TypeId} {x : Operand} {i j e : TyI}
    (hs : X.ty s = some j) (ht : X.ty t = some i) (he : X.ty el = some e) (hj : j.desc = .slice el) (hi : i.desc = .str) (hd : e.desc = .int .u8) :
    wpK X d ⟨dst, .convert s t x, ty, pos, after, g⟩ dst K fr S = bsK (evalA fr x) dst K fr S (wp1 X d ⟨dst, .convert s t x, ty, pos, after, g⟩ (fun v S' => K (putA fr dst v) S') fr S) := by
  obtain ⟨a1, b1, c1, e1, f1⟩ := i
  obtain ⟨a2, b2, c2, e2, f2⟩ := j
  obtain ⟨a3, b3, c3, e3, f3⟩ := e
  simp only at hj hi hd; subst hj hi hd
  have go : ∀ y, evalA fr x = y → convA X s t y = none → (∀ st, y ≠ .str st) → wpK X d ⟨dst, .convert s t x, ty, pos, after, g⟩ dst K fr S = match rowsOf S 1 y with
      | some (rows, _) => match bytesOf rows with
        | some l => K (putA fr dst (.str ⟨l.toArray⟩)) S
        | none => False
      | none => False := by
    intro y hy hc hn
    subst hy
    have hp : popA X fr ⟨dst, .convert s t x, ty, pos, after, g⟩ = none := by simp only [popA, hc]
    rw [wpK_qop (match rowsOf S 1 (evalA fr x) with | some (rows, _) => (bytesOf rows).map fun l => (.str ⟨l.toArray⟩, []) | none => none) hp (by
      simp only [qopA, hs, ht, he]
      cases rowsOf S 1 (evalA fr x) <;> rfl) rfl rfl rfl]
    cases rowsOf S 1 (evalA fr x) with
    | none => simp only [pairK]
    | some rp =>
      obtain ⟨rows, pr⟩ := rp
      simp only
      cases bytesOf rows with
      | none => simp only [Option.map_none, pairK]
      | some l => simp only [Option.map_some, pairK_some, List.append_nil]
  unfold bsK
  split
  · rename_i y1 b e off len sz hy; rw [go _ hy (by simp [convA, hs, ht]) (by simp)]
  · rename_i y1 st sz rows hy; rw [go _ hy (by simp [convA, hs, ht]) (by simp)]
  · unfold wpK; rfl
theorem bytesOf_nil : bytesOf [] = some [] := rfl
theorem bytesOf_cons {n : Int} {rest : List (List AV)} : bytesOf ([.int .u8 n] :: rest) = (bytesOf rest).map (UInt8.ofNat n.toNat :: ·) := rfl
theorem wI {n : Nat} (h : n < 9223372036854775808) : IntKind.wrap .i64 (n : Int) = n := wrap_small (by omega) (by omega)
theorem wB {n : Nat} (h : n < 256) : IntKind.wrap .u8 (n : Int) = n := by
  simp [IntKind.wrap, IntKind.min, IntKind.max, IntKind.signed, IntKind.bits]
  omega
theorem wIB {n : Nat} (h : n < 256) : IntKind.wrap .i64 (n : Int) = n := wI (by omega)
theorem tdivn (a b : Nat) : Int.tdiv (a : Int) (b : Int) = ((a / b : Nat) : Int) := rfl
theorem tmodn (a b : Nat) : Int.tmod (a : Int) (b : Int) = ((a % b : Nat) : Int) := rfl
end Go.Eng

/- The reference's scalars: encoded, first, Points. -/
namespace Go.Eng
open Go.Proofs
set_option linter.unusedSimpArgs false
set_option linter.unusedVariables false
attribute [local irreducible] wpC wpO wp1 EvV EvR wpL
attribute [local go_sem] ty3 ty4 ty5 ty9 ty195 List.all_cons List.all_nil List.replicate List.set_cons_zero Nat.one_mul Nat.reduceMul Nat.zero_mul bslA fz65 fz68 fz70 fz71 rowsFill reduceIte Nat.reduceAdd Nat.reduceEqDiff Nat.reduceLT Nat.reduceLeDiff beq_iff_eq beq_eq_false_iff_ne Int.natCast_inj Bool.not_eq_false' op1_go wpK_box wpK_alloc wpK_load wpK_store wpK_binOp wpK_unOp wpK_fieldAddr wpK_field wpK_build wpK_indexAddr wpK_slice wpK_len wpK_extract wpK_nilCheck wpK_pick wpK_makeFunc wpK_call wpK_callT wpK_max wpK_min wpK_assignT wpK_moveT wpK_assignB wpK_moveB wpK_assignI wpK_moveI wpK_assignA wpK_moveA callK_fn snapL_nil snapL_cons snap_int snap_bool snap_str snap_tsl snap_agg snap_fn snap_flat adopt_int adopt_bool adopt_str adopt_agg adopt_osl adopt_tsl adopt_tup op1_guard grdK_bool grdK_undef condK_bool someK_some pairK_some nilK_ptr nilK_tptr boxK storeK evalA_tmp evalA_int evalA_bool evalA_agg evalA_fn evalA_nil ofC_int ofC_bool getA_zero getA_succ cells_int cells_agg cells_bool cells_sl cells_tsl cell_int cell_bool cell_str cell_sl cell_esl cell_tsl cell_ptr cell_tptr cell_fn cell_nils cell_nilf List.all_cons List.all_nil Bool.and_true Bool.and_self Bool.true_and putA_some putA_none List.set_cons_zero List.set_cons_succ List.length_cons List.length_nil List.nil_append List.cons_append stabL AV.stab fieldAddrA fieldA List.getElem?_cons_zero List.getElem?_cons_succ Nat.zero_add loadA rowOf Nat.le_refl and_self true_and and_true partA binA unA intBin eqBin eqCells eqCell Option.bind_some decide_true decide_false decide_eq_true_eq ite_not Bool.not_eq_true' decide_eq_false_iff_not Bool.false_eq_true Option.map_some Option.map_none Bool.not_true Bool.not_false buildA fillA patch List.take List.drop List.map_cons List.map_nil extK List.getD_cons_zero List.getD_cons_succ minmaxA minmaxGo adoptZ_false adoptZ_true freeze_int freeze_bool freeze_str freeze_flat freeze_agg freeze_osl freeze_tsl freeze_tup frz1_bool frz1_int frz1_str frz1_agg frz1_osl frz1_tsl bne Bool.false_and Bool.and_false ne_eq not_true_eq_false not_false_eq_true List.append_nil resultsR resultsL resultA expK_int expK_bool expK_str expK_agg expK_own expK_tsl resK_some latK_false latK_true latP_store latP_move latP_assign latP_pick latP_nilCheck latP_makeInterface latP_binOp latP_unOp latP_convert latP_build latP_field latP_fieldAddr latP_indexAddr latP_index latP_slice latP_makeFunc latP_extract latP_call latP_load latP_alloc latP_box latP_buildSlice latP_makeSlice latP_makeMap latP_lookup latP_mapUpdate latP_range latP_next latP_entry nestNo wpK_lookup wpK_range wpK_next wpK_entry wpK_makeMap wpK_mapUpdate cell_mp
set_option maxHeartbeats 4000000

theorem scalE (p : Nat) : EvV CX 100 [.int .i64 p] (· = .bool (scal p)) := by
  have h0 : (0 : Int) ≤ (p : Int) := by omega
  have e1 : ((p : Int) ≤ 1114111) ↔ (p ≤ 1114111) := by omega
  have e2 : ((p : Int) < 55296) ↔ (p < 55296) := by omega
  have e3 : ((57343 : Int) < (p : Int)) ↔ (57343 < p) := by omega
  by_cases h1 : p ≤ 1114111 <;> by_cases h2 : p < 55296 <;> by_cases h3 : 57343 < p
  all_goals
    refine EvV.walk rfl fn100 rfl nt100 rfl ?_
    simp only [List.length_cons, List.length_nil, List.cons_append, List.nil_append, Nat.reduceAdd, Nat.reduceSub, List.replicate]
    repeat' (first | refine go1 ?_ | refine blockK_else rfl ?_ | (refine go2 fun A B a b => ?_; simp only [go_sem, *]; (repeat' first | apply a.1 | apply b.1 | refine iteI (fun h => ?_) fun h => ?_) <;> clear a b A B))
    simp only [go_sem]
    simp [scal, h1, h2, h3]

theorem encUE (p : Nat) (hp : p ≤ 1114111) : EvV CX 101 [.int .i64 p] (· = .str ⟨(encU p).toArray⟩) := by
  have z1 : ¬ (64 : Int) = 0 := by omega
  have z2 : ¬ (4096 : Int) = 0 := by omega
  have z3 : ¬ (262144 : Int) = 0 := by omega
  have d1 : Int.tdiv (p : Int) 64 = ((p / 64 : Nat) : Int) := rfl
  have d2 : Int.tdiv (p : Int) 4096 = ((p / 4096 : Nat) : Int) := rfl
  have d3 : Int.tdiv (p : Int) 262144 = ((p / 262144 : Nat) : Int) := rfl
  have m1 : Int.tmod (p : Int) 64 = ((p % 64 : Nat) : Int) := rfl
  have m2 : Int.tmod ((p / 64 : Nat) : Int) 64 = ((p / 64 % 64 : Nat) : Int) := rfl
  have m3 : Int.tmod ((p / 4096 : Nat) : Int) 64 = ((p / 4096 % 64 : Nat) : Int) := rfl
  have w1 : IntKind.wrap .i64 ((p / 64 : Nat) : Int) = ((p / 64 : Nat) : Int) := wI (by omega)
  have w2 : IntKind.wrap .i64 ((p / 4096 : Nat) : Int) = ((p / 4096 : Nat) : Int) := wI (by omega)
  have w3 : IntKind.wrap .i64 ((p / 262144 : Nat) : Int) = ((p / 262144 : Nat) : Int) := wI (by omega)
  have a1 : IntKind.wrap .i64 ((128 : Int) + ((p % 64 : Nat) : Int)) = ((128 + p % 64 : Nat) : Int) := wI (n := 128 + p % 64) (by omega)
  have a2 : IntKind.wrap .i64 ((128 : Int) + ((p / 64 % 64 : Nat) : Int)) = ((128 + p / 64 % 64 : Nat) : Int) := wI (n := 128 + p / 64 % 64) (by omega)
  have a3 : IntKind.wrap .i64 ((128 : Int) + ((p / 4096 % 64 : Nat) : Int)) = ((128 + p / 4096 % 64 : Nat) : Int) := wI (n := 128 + p / 4096 % 64) (by omega)
  have b1 : IntKind.wrap .u8 ((128 + p % 64 : Nat) : Int) = ((128 + p % 64 : Nat) : Int) := wB (by omega)
  have b2 : IntKind.wrap .u8 ((128 + p / 64 % 64 : Nat) : Int) = ((128 + p / 64 % 64 : Nat) : Int) := wB (by omega)
  have b3 : IntKind.wrap .u8 ((128 + p / 4096 % 64 : Nat) : Int) = ((128 + p / 4096 % 64 : Nat) : Int) := wB (by omega)
  by_cases h1 : (p : Int) < 128
  · have b0 : IntKind.wrap .u8 (p : Int) = (p : Int) := wB (by omega)
    refine EvV.walk rfl fn101 rfl nt101 rfl ?_
    simp only [List.length_cons, List.length_nil, List.cons_append, List.nil_append, Nat.reduceAdd, Nat.reduceSub, List.replicate]
    repeat' (first | refine go1 ?_ | refine blockK_else rfl ?_ | (refine go2 fun A B a b => ?_; simp only [go_sem, *, cvtK_int, wpK_buildSlice ty195 rfl, wpK_cvt ty3 ty5 rfl, b0, wpK_assignS, wpK_moveS, evalA_str, wpK_bs ty195 ty9 ty5 rfl rfl rfl, bsK_sl, rowsOf_sl, bytesOf_cons, bytesOf_nil, Int.toNat_natCast, snap_sl, ints_len, ints_take, List.take_length, Nat.zero_le, Bool.true_or]; (repeat' first | apply a.1 | apply b.1 | refine iteI (fun h => ?_) fun h => ?_) <;> clear a b A B))
    simp only [go_sem, cvtK_int, wpK_buildSlice ty195 rfl, wpK_cvt ty3 ty5 rfl]
    rw [encU, if_pos (by omega)]
  by_cases h2 : (p : Int) < 2048
  · have a0 : IntKind.wrap .i64 ((192 : Int) + ((p / 64 : Nat) : Int)) = ((192 + p / 64 : Nat) : Int) := wI (n := 192 + p / 64) (by omega)
    have b0 : IntKind.wrap .u8 ((192 + p / 64 : Nat) : Int) = ((192 + p / 64 : Nat) : Int) := wB (by omega)
    refine EvV.walk rfl fn101 rfl nt101 rfl ?_
    simp only [List.length_cons, List.length_nil, List.cons_append, List.nil_append, Nat.reduceAdd, Nat.reduceSub, List.replicate]
    repeat' (first | refine go1 ?_ | refine blockK_else rfl ?_ | (refine go2 fun A B a b => ?_; simp only [go_sem, *, cvtK_int, wpK_buildSlice ty195 rfl, wpK_cvt ty3 ty5 rfl, b0, a0, wpK_assignS, wpK_moveS, evalA_str, wpK_bs ty195 ty9 ty5 rfl rfl rfl, bsK_sl, rowsOf_sl, bytesOf_cons, bytesOf_nil, Int.toNat_natCast, snap_sl, ints_len, ints_take, List.take_length, Nat.zero_le, Bool.true_or]; (repeat' first | apply a.1 | apply b.1 | refine iteI (fun h => ?_) fun h => ?_) <;> clear a b A B))
    simp only [go_sem, cvtK_int, wpK_buildSlice ty195 rfl, wpK_cvt ty3 ty5 rfl]
    rw [encU, if_neg (by omega), if_pos (by omega)]
  by_cases h3 : (p : Int) < 65536
  · have a0 : IntKind.wrap .i64 ((224 : Int) + ((p / 4096 : Nat) : Int)) = ((224 + p / 4096 : Nat) : Int) := wI (n := 224 + p / 4096) (by omega)
    have b0 : IntKind.wrap .u8 ((224 + p / 4096 : Nat) : Int) = ((224 + p / 4096 : Nat) : Int) := wB (by omega)
    refine EvV.walk rfl fn101 rfl nt101 rfl ?_
    simp only [List.length_cons, List.length_nil, List.cons_append, List.nil_append, Nat.reduceAdd, Nat.reduceSub, List.replicate]
    repeat' (first | refine go1 ?_ | refine blockK_else rfl ?_ | (refine go2 fun A B a b => ?_; simp only [go_sem, *, cvtK_int, wpK_buildSlice ty195 rfl, wpK_cvt ty3 ty5 rfl, b0, a0, wpK_assignS, wpK_moveS, evalA_str, wpK_bs ty195 ty9 ty5 rfl rfl rfl, bsK_sl, rowsOf_sl, bytesOf_cons, bytesOf_nil, Int.toNat_natCast, snap_sl, ints_len, ints_take, List.take_length, Nat.zero_le, Bool.true_or]; (repeat' first | apply a.1 | apply b.1 | refine iteI (fun h => ?_) fun h => ?_) <;> clear a b A B))
    simp only [go_sem, cvtK_int, wpK_buildSlice ty195 rfl, wpK_cvt ty3 ty5 rfl]
    rw [encU, if_neg (by omega), if_neg (by omega), if_pos (by omega)]
  · have a0 : IntKind.wrap .i64 ((240 : Int) + ((p / 262144 : Nat) : Int)) = ((240 + p / 262144 : Nat) : Int) := wI (n := 240 + p / 262144) (by omega)
    have b0 : IntKind.wrap .u8 ((240 + p / 262144 : Nat) : Int) = ((240 + p / 262144 : Nat) : Int) := wB (by omega)
    refine EvV.walk rfl fn101 rfl nt101 rfl ?_
    simp only [List.length_cons, List.length_nil, List.cons_append, List.nil_append, Nat.reduceAdd, Nat.reduceSub, List.replicate]
    repeat' (first | refine go1 ?_ | refine blockK_else rfl ?_ | (refine go2 fun A B a b => ?_; simp only [go_sem, *, cvtK_int, wpK_buildSlice ty195 rfl, wpK_cvt ty3 ty5 rfl, b0, a0, wpK_assignS, wpK_moveS, evalA_str, wpK_bs ty195 ty9 ty5 rfl rfl rfl, bsK_sl, rowsOf_sl, bytesOf_cons, bytesOf_nil, Int.toNat_natCast, snap_sl, ints_len, ints_take, List.take_length, Nat.zero_le, Bool.true_or]; (repeat' first | apply a.1 | apply b.1 | refine iteI (fun h => ?_) fun h => ?_) <;> clear a b A B))
    simp only [go_sem, cvtK_int, wpK_buildSlice ty195 rfl, wpK_cvt ty3 ty5 rfl]
    rw [encU, if_neg (by omega), if_neg (by omega), if_neg (by omega)]

def fstV : Option (Nat × Nat) → AV
  | some (p, n) => .tup [.int .i64 p, .int .i64 n]
  | none => .tup [.int .i64 (-1), .int .i64 0]

/- The reference's scalars: first, Points; labels. -/
open Go.Proofs
attribute [local go_sem] br100 br101 fz76
set_option maxHeartbeats 4000000

theorem slice_str {X : Ctx} {t : TypeId} {a c : Nat} {b : Bool} {d : List AV} {s : ByteArray} {k : IntKind} {i j : Nat} (ht : X.ty t = some ⟨a, b, c, d, .str⟩) (hij : i ≤ j) (hj : j ≤ s.size) : sliceA X t (.str s) (some (.int k i)) (some (.int k j)) none = some (.str (s.extract i j)) := by
  simp [sliceA, ht, boundA, hij, hj]
theorem extract_toList (s : ByteArray) (i j : Nat) : (s.extract i j).toList = (s.data.toList.drop i).take (j - i) := by
  rw [toList_data]
  have : (s.extract i j).data = s.data.extract i j := by simp
  rw [this, Array.toList_extract]
theorem acc_step {p : Nat} {tl : List UInt8} {k : Nat} {b : UInt8} (h : tl[k]? = some b) : accU p (tl.take (k + 1)) = accU p (tl.take k) * 64 + b.toNat % 64 := by
  rw [List.take_add_one, h]
  simp [accU, List.foldl_append]

theorem fstE (s : ByteArray) (hs : s.size ≤ 1048576) {pre tl : List UInt8} {c : UInt8} (hl : s.data.toList = pre ++ c :: tl) : EvV CX 78 [.str s, .int .i64 pre.length] (· = fstV (fstU (c :: tl))) := by
  have hlen := str_len hl
  simp only [List.length_append, List.length_cons] at hlen
  have i0 := index_str (X := CX) (k := .i64) ty9 (str_get hl)
  have hc := c.toNat_lt
  have w0 : IntKind.wrap .i64 (c.toNat : Int) = (c.toNat : Int) := wI (by omega)
  have k3 : ∀ (S : Store) (m : Int), expTop S (.int .i64 m) = some (.int .i64 m) := fun _ _ => rfl
  refine EvV.walk rfl fn78 rfl nt78 rfl ?_
  simp only [List.length_cons, List.length_nil, List.cons_append, List.nil_append, Nat.reduceAdd, Nat.reduceSub, List.replicate]
  repeat' (first | refine go1 ?_ | refine blockK_else rfl ?_ | (refine wpO_consD fun A B a b => ?_; simp only [go_sem, *, cvtK_int, wpK_cvt ty5 ty3 rfl, wpK_index, wpK_assignS, wpK_moveS, evalA_str, lenK_str, i0, w0]; (repeat' first | apply a.1 | refine iteI (fun h => ?_) fun h => ?_) <;> clear a b A B))
  refine wpC_cutB [13, 14, 15, 16, 17, 18, 19, 20, 21, 22, 23, 24, 25, 26, 27] (fun _ : Unit => [(6, .int .i64 ((hdU c.toNat).1 : Int)), (7, .int .i64 ((hdU c.toNat).2 : Int))]) (fun _ H => H) (fun _ => True) ?_ ?_
  · by_cases h1 : (240 : Int) ≤ (c.toNat : Int)
    · have e : hdU c.toNat = (c.toNat - 240, 4) := by rw [hdU, if_pos (by omega)]
      have w1 : IntKind.wrap .i64 ((c.toNat : Int) - 240) = ((c.toNat - 240 : Nat) : Int) := by rw [wrap_small (by omega) (by omega)]; omega
      rw [e]
      clear e i0
      repeat' (first | refine go1 ?_ | refine blockK_else rfl ?_ | (refine go2 fun A B a b => ?_; simp only [go_sem, *, cvtK_int, wpK_cvt ty5 ty3 rfl, w1]; (repeat' first | apply a.1 | apply b.1 | refine iteI (fun h => ?_) fun h => ?_) <;> clear a b A B))
      refine cut_next () trivial ?_ ⟨[], rfl⟩
      ((try simp only [eraseA_cons, eraseA_nil, setL_cons, setL_nil, List.set_cons_zero, List.set_cons_succ]); all_goals (first | rfl | (simp only [len_snoc, ints_len, List.length_map, ]; done) | (simp only [len_snoc, len_mid, ints_len, List.length_map, List.length_append, List.length_cons, List.length_nil, Nat.zero_add, ]; first | done | rfl)))
    by_cases h2 : (224 : Int) ≤ (c.toNat : Int)
    · have e : hdU c.toNat = (c.toNat - 224, 3) := by rw [hdU, if_neg (by omega), if_pos (by omega)]
      have w1 : IntKind.wrap .i64 ((c.toNat : Int) - 224) = ((c.toNat - 224 : Nat) : Int) := by rw [wrap_small (by omega) (by omega)]; omega
      rw [e]
      clear e i0
      repeat' (first | refine go1 ?_ | refine blockK_else rfl ?_ | (refine go2 fun A B a b => ?_; simp only [go_sem, *, cvtK_int, wpK_cvt ty5 ty3 rfl, w1]; (repeat' first | apply a.1 | apply b.1 | refine iteI (fun h => ?_) fun h => ?_) <;> clear a b A B))
      refine cut_next () trivial ?_ ⟨[], rfl⟩
      ((try simp only [eraseA_cons, eraseA_nil, setL_cons, setL_nil, List.set_cons_zero, List.set_cons_succ]); all_goals (first | rfl | (simp only [len_snoc, ints_len, List.length_map, ]; done) | (simp only [len_snoc, len_mid, ints_len, List.length_map, List.length_append, List.length_cons, List.length_nil, Nat.zero_add, ]; first | done | rfl)))
    by_cases h3 : (192 : Int) ≤ (c.toNat : Int)
    · have e : hdU c.toNat = (c.toNat - 192, 2) := by rw [hdU, if_neg (by omega), if_neg (by omega), if_pos (by omega)]
      have w1 : IntKind.wrap .i64 ((c.toNat : Int) - 192) = ((c.toNat - 192 : Nat) : Int) := by rw [wrap_small (by omega) (by omega)]; omega
      rw [e]
      clear e i0
      repeat' (first | refine go1 ?_ | refine blockK_else rfl ?_ | (refine go2 fun A B a b => ?_; simp only [go_sem, *, cvtK_int, wpK_cvt ty5 ty3 rfl, w1]; (repeat' first | apply a.1 | apply b.1 | refine iteI (fun h => ?_) fun h => ?_) <;> clear a b A B))
      refine cut_next () trivial ?_ ⟨[], rfl⟩
      ((try simp only [eraseA_cons, eraseA_nil, setL_cons, setL_nil, List.set_cons_zero, List.set_cons_succ]); all_goals (first | rfl | (simp only [len_snoc, ints_len, List.length_map, ]; done) | (simp only [len_snoc, len_mid, ints_len, List.length_map, List.length_append, List.length_cons, List.length_nil, Nat.zero_add, ]; first | done | rfl)))
    · have e : hdU c.toNat = (c.toNat, 1) := by rw [hdU, if_neg (by omega), if_neg (by omega), if_neg (by omega)]
      rw [e]
      clear e i0
      repeat' (first | refine go1 ?_ | refine blockK_else rfl ?_ | (refine go2 fun A B a b => ?_; simp only [go_sem, *, cvtK_int, wpK_cvt ty5 ty3 rfl]; (repeat' first | apply a.1 | apply b.1 | refine iteI (fun h => ?_) fun h => ?_) <;> clear a b A B))
      refine cut_next () trivial ?_ ⟨[], rfl⟩
      ((try simp only [eraseA_cons, eraseA_nil, setL_cons, setL_nil, List.set_cons_zero, List.set_cons_succ]); all_goals (first | rfl | (simp only [len_snoc, ints_len, List.length_map, ]; done) | (simp only [len_snoc, len_mid, ints_len, List.length_map, List.length_append, List.length_cons, List.length_nil, Nat.zero_add, ]; first | done | rfl)))
  rintro _ g0 G0 _
  have hn := hdU_n c.toNat
  have hp0 := hdU_p (c := c.toNat) hc
  have hF : fstU (c :: tl) = if tl.length + 1 < (hdU c.toNat).2 then none else
    if scal (accU (hdU c.toNat).1 (tl.take ((hdU c.toNat).2 - 1))) = true ∧ encU (accU (hdU c.toNat).1 (tl.take ((hdU c.toNat).2 - 1))) = (c :: tl).take (hdU c.toNat).2 then some (accU (hdU c.toNat).1 (tl.take ((hdU c.toNat).2 - 1)), (hdU c.toNat).2) else none := rfl
  rw [hF]
  clear i0 hF w0
  generalize (hdU c.toNat).1 = p0 at *
  generalize (hdU c.toNat).2 = n at *
  have wa : IntKind.wrap .i64 ((pre.length : Int) + (n : Int)) = ((pre.length + n : Nat) : Int) := wI (n := pre.length + n) (by omega)
  have hsz : (s.size : Int) = ((pre.length + (tl.length + 1) : Nat) : Int) := by rw [hlen]
  simp only [garbA_cons, garbA_nil, setL_cons, setL_nil, List.set_cons_zero, List.set_cons_succ]
  by_cases ho : tl.length + 1 < n
  · have z : (((pre.length + (tl.length + 1) : Nat) : Int)) < ((pre.length + n : Nat) : Int) := by omega
    rw [if_pos ho]
    clear hlen ho
    repeat' (first | refine go1 ?_ | refine blockK_else rfl ?_ | (refine go2 fun A B a b => ?_; simp only [go_sem, *, cvtK_int, wpK_cvt ty5 ty3 rfl, wpK_index, wpK_assignS, wpK_moveS, evalA_str, lenK_str, wa, hsz, z]; (repeat' first | apply a.1 | apply b.1 | refine iteI (fun h => ?_) fun h => ?_) <;> clear a b A B))
    simp only [go_sem, expK_tup]
    rw [if_pos (show idsOK _ = true from rfl)]
    simp only [expTops, k3, fstV]
  have z : ¬ (((pre.length + (tl.length + 1) : Nat) : Int)) < ((pre.length + n : Nat) : Int) := by omega
  have hon : n ≤ tl.length + 1 := by omega
  rw [if_neg ho]
  clear ho
  repeat' (first | refine go1 ?_ | refine blockK_else rfl ?_ | (refine wpO_consD fun A B a b => ?_; simp only [go_sem, *, cvtK_int, wpK_cvt ty5 ty3 rfl, wpK_index, wpK_assignS, wpK_moveS, evalA_str, lenK_str, wa, hsz, z]; (repeat' first | apply a.1 | refine iteI (fun h => ?_) fun h => ?_) <;> clear a b A B))
  (refine wpC_cond fun A B hA hB => ?_; simp only [go_sem, *, cvtK_int, wpK_cvt ty5 ty3 rfl, z]; first | (refine hA.out ?_; clear hA hB A B) | (refine hB.out ?_; clear hA hB A B))
  repeat' (first | refine go1 ?_ | refine blockK_else rfl ?_ | (refine wpO_consD fun A B a b => ?_; simp only [go_sem, *, cvtK_int, wpK_cvt ty5 ty3 rfl]; (repeat' first | apply a.1 | refine iteI (fun h => ?_) fun h => ?_) <;> clear a b A B))
  clear z
  refine wpC_loopF [34, 35, 36, 37, 38, 39, 40, 41, 42, 43, 44, 45, 46, 47, 48] (fun i : Nat => [(6, .int .i64 ((accU p0 (tl.take (i - 1)) : Nat) : Int)), (8, .int .i64 (i : Int))]) (fun _ H => H) (fun i => 1 ≤ i ∧ i ≤ n) (fun i => n - i) 1 ⟨Nat.le_refl _, hn.1⟩ ?_ ⟨_, rfl⟩ ?_
  · ((try simp only [eraseA_cons, eraseA_nil, setL_cons, setL_nil, List.set_cons_zero, List.set_cons_succ]); all_goals (first | rfl | (simp only [len_snoc, ints_len, List.length_map, ]; done) | (simp only [len_snoc, len_mid, ints_len, List.length_map, List.length_append, List.length_cons, List.length_nil, Nat.zero_add, ]; first | done | rfl)))
  rintro i g G ⟨h1, h2⟩
  simp only [garbA_cons, garbA_nil, setL_cons, setL_nil, List.set_cons_zero, List.set_cons_succ]
  have hacc := accU_lt (tl.take (i - 1)) p0
  have hlt : (tl.take (i - 1)).length ≤ 3 := by simp; omega
  have hpow : 64 ^ (tl.take (i - 1)).length ≤ 262144 := Nat.le_trans (Nat.pow_le_pow_right (by omega) hlt) (by decide)
  have hbnd : accU p0 (tl.take (i - 1)) < 67108864 := Nat.lt_of_lt_of_le hacc (Nat.le_trans (Nat.mul_le_mul (show p0 + 1 ≤ 256 by omega) hpow) (by decide))
  by_cases hi : i < n
  · have hk : i - 1 < tl.length := by omega
    obtain ⟨b, hb⟩ : ∃ b, tl[i - 1]? = some b := ⟨_, List.getElem?_eq_getElem hk⟩
    have hbl := b.toNat_lt
    have hget : s[pre.length + i]? = some b := by
      have e : s.data.toList = (pre ++ c :: tl.take (i - 1)) ++ b :: tl.drop i := by
        rw [hl]
        have : tl = tl.take (i - 1) ++ b :: tl.drop i := by
          have h3 := List.take_append_drop (i - 1) tl
          have h4 : tl.drop (i - 1) = b :: tl.drop i := by
            rw [List.drop_eq_getElem_cons hk]
            have : tl[i - 1] = b := by rw [List.getElem?_eq_getElem hk] at hb; injection hb
            rw [this, show i - 1 + 1 = i by omega]
          rw [h4] at h3; exact h3.symm
        simp only [List.append_assoc, List.cons_append]
        rw [← this]
      have e2 := str_get e
      have e3 : (pre ++ c :: tl.take (i - 1)).length = pre.length + i := by simp; omega
      rw [e3] at e2; exact e2
    have i1 := index_str (X := CX) (k := .i64) ty9 hget
    have lt1 : (i : Int) < (n : Int) := by omega
    have w1 : IntKind.wrap .i64 (((accU p0 (tl.take (i - 1)) : Nat) : Int) * 64) = ((accU p0 (tl.take (i - 1)) * 64 : Nat) : Int) := wI (n := accU p0 (tl.take (i - 1)) * 64) (by omega)
    have w2 : IntKind.wrap .i64 ((pre.length : Int) + (i : Int)) = ((pre.length + i : Nat) : Int) := wI (n := pre.length + i) (by omega)
    have w3 : IntKind.wrap .i64 (b.toNat : Int) = (b.toNat : Int) := wI (by omega)
    have m1 : Int.tmod (b.toNat : Int) 64 = ((b.toNat % 64 : Nat) : Int) := rfl
    have z4 : ¬ (64 : Int) = 0 := by omega
    have w4 : IntKind.wrap .i64 (((accU p0 (tl.take (i - 1)) * 64 : Nat) : Int) + ((b.toNat % 64 : Nat) : Int)) = ((accU p0 (tl.take (i - 1)) * 64 + b.toNat % 64 : Nat) : Int) := wI (n := accU p0 (tl.take (i - 1)) * 64 + b.toNat % 64) (by omega)
    have w5 := wrap_succ (n := i) (by omega)
    have ha := acc_step (p := p0) hb
    rw [show i - 1 + 1 = i by omega] at ha
    have hha : Hold (accU p0 (tl.take i) = accU p0 (tl.take (i - 1)) * 64 + b.toNat % 64) := ⟨ha⟩
    clear ha hb hget
    repeat' (first | refine go1 ?_ | refine blockK_else rfl ?_ | (refine go2 fun A B a b => ?_; simp only [go_sem, *, cvtK_int, wpK_cvt ty5 ty3 rfl, wpK_index, wpK_assignS, wpK_moveS, evalA_str, lenK_str, i1, lt1, w1, w2, w3, w4, w5, m1, z4]; (repeat' first | apply a.1 | apply b.1 | refine iteI (fun h => ?_) fun h => ?_) <;> clear a b A B))
    refine loopF_next (i + 1) (by omega) ⟨by omega, by omega⟩ ?_ ⟨_, rfl⟩
    ((try simp only [eraseA_cons, eraseA_nil, setL_cons, setL_nil, List.set_cons_zero, List.set_cons_succ]); all_goals (first | rfl | (simp only [len_snoc, ints_len, List.length_map, Nat.add_sub_cancel, hha.out]; done) | (simp only [len_snoc, len_mid, ints_len, List.length_map, List.length_append, List.length_cons, List.length_nil, Nat.zero_add, Nat.add_sub_cancel, hha.out]; first | done | rfl)))
  · have hin : i = n := by omega
    subst hin
    have lt1 : ¬ (i : Int) < (i : Int) := by omega
    generalize hP : accU p0 (tl.take (i - 1)) = p at *
    have qs := (scalE p).rw
    repeat' (first | refine go1 ?_ | refine blockK_else rfl ?_ | (refine wpO_consD fun A B a b => ?_; simp only [go_sem, *, cvtK_int, wpK_cvt ty5 ty3 rfl, lt1]; (repeat' first | apply a.1 | refine iteI (fun h => ?_) fun h => ?_) <;> clear a b A B))
    (refine wpC_cond fun A B hA hB => ?_; simp only [go_sem, *, cvtK_int, wpK_cvt ty5 ty3 rfl]; first | (refine hA.out ?_; clear hA hB A B) | (refine hB.out ?_; clear hA hB A B))
    have hle : pre.length ≤ pre.length + i := by omega
    have hle2 : pre.length + i ≤ s.size := by omega
    have sl := slice_str (X := CX) (k := .i64) (s := s) ty9 hle hle2
    by_cases k1 : scal p = true
    · have hpm : p ≤ 1114111 := by simp [scal] at k1; omega
      have qe := (encUE p hpm).rw
      have hq : ((⟨(encU p).toArray⟩ : ByteArray).toList == (s.extract pre.length (pre.length + i)).toList) = decide (encU p = (c :: tl).take i) := by
        rw [extract_toList, toList_data, hl, List.drop_left, Nat.add_sub_cancel_left]
        rw [Bool.eq_iff_iff]; simp
      by_cases k2 : encU p = (c :: tl).take i
      · have hd : decide (encU p = (c :: tl).take i) = true := by simpa using k2
        rw [hd] at hq
        rw [if_pos ⟨k1, k2⟩]
        clear hd hle hle2 hbnd hacc hlt hpow k2
        repeat' (first | refine go1 ?_ | refine blockK_else rfl ?_ | (refine go2 fun A B a b => ?_; simp only [go_sem, *, cvtK_int, wpK_cvt ty5 ty3 rfl, wpK_index, wpK_assignS, wpK_moveS, evalA_str, lenK_str, wa, qs, qe, k1, sl, strBin, hq]; (repeat' first | apply a.1 | apply b.1 | refine iteI (fun h => ?_) fun h => ?_) <;> clear a b A B))
        simp only [go_sem, expK_tup]
        rw [if_pos (show idsOK _ = true from rfl)]
        simp only [expTops, k3, fstV]
      · have hd : decide (encU p = (c :: tl).take i) = false := by simpa using k2
        rw [hd] at hq
        rw [if_neg (fun h => k2 h.2)]
        clear hd hle hle2 hbnd hacc hlt hpow k2
        repeat' (first | refine go1 ?_ | refine blockK_else rfl ?_ | (refine go2 fun A B a b => ?_; simp only [go_sem, *, cvtK_int, wpK_cvt ty5 ty3 rfl, wpK_index, wpK_assignS, wpK_moveS, evalA_str, lenK_str, wa, qs, qe, k1, sl, strBin, hq]; (repeat' first | apply a.1 | apply b.1 | refine iteI (fun h => ?_) fun h => ?_) <;> clear a b A B))
        simp only [go_sem, expK_tup]
        rw [if_pos (show idsOK _ = true from rfl)]
        simp only [expTops, k3, fstV]
    · rw [if_neg (fun h => k1 h.1)]
      have k1 : scal p = false := by simpa using k1
      clear hle hle2 hbnd hacc hlt hpow
      repeat' (first | refine go1 ?_ | refine blockK_else rfl ?_ | (refine go2 fun A B a b => ?_; simp only [go_sem, *, cvtK_int, wpK_cvt ty5 ty3 rfl, wpK_index, wpK_assignS, wpK_moveS, evalA_str, lenK_str, wa, qs, k1]; (repeat' first | apply a.1 | apply b.1 | refine iteI (fun h => ?_) fun h => ?_) <;> clear a b A B))
      simp only [go_sem, expK_tup]
      rw [if_pos (show idsOK _ = true from rfl)]
      simp only [expTops, k3, fstV]

/- The reference's Points, Label, People. -/
open Go.Proofs
attribute [local go_sem] ty22 br78 appK fz78 fz81 lenK_esl lenK_nils lenK_sl lenK_tsl nilsK rowsOf_esl rowsOf_nils rowsOf_sl rowsOf_tsl
set_option maxHeartbeats 4000000

theorem Option.map_map' {α : Type} (o : Option (List α)) (a : List α) (p : α) : (o.map (p :: ·)).map (a ++ ·) = o.map ((a ++ [p]) ++ ·) := by
  cases o <;> simp

def natI (l : List Nat) : List Int := l.map (fun n : Nat => ((n : Nat) : Int))
def ptsV : Option (List Nat) → AV
  | some l => .tup [.osl 1 (ints (natI l)), .bool true]
  | none => .tup [.osl 1 [], .bool false]

theorem ptsE (s : ByteArray) (hs : s.size ≤ 1048576) : EvV CX 66 [.str s] (· = ptsV (pts s.data.toList)) := by
  obtain ⟨l, hl⟩ : ∃ l, s.data.toList = l := ⟨_, rfl⟩
  have hlen := str_len hl
  rw [hl]
  have k5 : ∀ (S : Store) (m : Bool), expTop S (.bool m) = some (.bool m) := fun _ _ => rfl
  refine EvV.walk rfl fn66 rfl nt66 rfl ?_
  simp only [List.length_cons, List.length_nil, List.cons_append, List.nil_append, Nat.reduceAdd, Nat.reduceSub, List.replicate]
  repeat' (first | refine go1 ?_ | refine blockK_else rfl ?_ | (refine go2 fun A B a b => ?_; simp only [go_sem, *, wpK_append ty22 rfl, wpK_assignN ty22 rfl, wpK_buildSlice ty22 rfl]; (repeat' first | apply a.1 | apply b.1 | refine iteI (fun h => ?_) fun h => ?_) <;> clear a b A B))
  refine wpC_loopF [2, 3, 6, 7, 8, 9, 10, 11, 12, 13, 14, 15, 16, 17, 18, 19, 20, 21, 22, 23, 24, 25, 26] (fun a : List UInt8 × List UInt8 × List Nat => [(4, .sl 1 a.2.2.length 0 a.2.2.length 1), (5, .int .i64 (a.1.length : Int))]) (fun a G => .arr [] 1 0 true :: .arr (ints (natI a.2.2)) 1 0 true :: G)
    (fun a => l = a.1 ++ a.2.1 ∧ a.2.2.length ≤ a.1.length ∧ pts l = (pts a.2.1).map (a.2.2 ++ ·)) (fun a => a.2.1.length) ([], l, []) ⟨rfl, Nat.le_refl _, by cases pts l <;> simp⟩ ?_ ⟨[], rfl⟩ ?_
  · rfl
  rintro ⟨pre, rest, out⟩ g G ⟨h1, h2, h3⟩
  simp only at h1 h2 h3
  rw [h3]
  simp only [garbA_cons, garbA_nil, setL_cons, setL_nil, List.set_cons_zero, List.set_cons_succ]
  have hsz : (s.size : Int) = (l.length : Int) := by rw [hlen]
  have hnl : (natI out).length = out.length := by simp [natI]
  cases rest with
  | nil =>
    rw [List.append_nil] at h1
    have e : (l.length : Int) = (pre.length : Int) := by rw [h1]
    rw [pts_nil]
    clear h1 h3
    repeat' (first | refine go1 ?_ | refine blockK_else rfl ?_ | (refine go2 fun A B a b => ?_; simp only [go_sem, *, wpK_append ty22 rfl, wpK_assignN ty22 rfl, wpK_buildSlice ty22 rfl, wpK_index, wpK_assignS, wpK_moveS, evalA_str, lenK_str, hsz, e, Int.lt_irrefl]; (repeat' first | apply a.1 | apply b.1 | refine iteI (fun h => ?_) fun h => ?_) <;> clear a b A B))
    simp only [go_sem, expK_tup]
    simp [idsOK, ownIds, lentIds, expTops, expTop, k5, ptsV, ints, natI, AV.stab]
  | cons c tl =>
    have lt1 : (pre.length : Int) < (l.length : Int) := by rw [h1]; simp; omega
    have q := (fstE s hs (hl.trans h1)).rw
    cases hf : fstU (c :: tl) with
    | none =>
      rw [hf, fstV] at q
      rw [pts_none hf]
      clear h1 h3 hf
      repeat' (first | refine go1 ?_ | refine blockK_else rfl ?_ | (refine go2 fun A B a b => ?_; simp only [go_sem, *, wpK_append ty22 rfl, wpK_assignN ty22 rfl, wpK_buildSlice ty22 rfl, wpK_index, wpK_assignS, wpK_moveS, evalA_str, lenK_str, hsz, lt1, q, adoptL, adopt1]; (repeat' first | apply a.1 | apply b.1 | refine iteI (fun h => ?_) fun h => ?_) <;> clear a b A B))
      simp only [go_sem, expK_tup]
      simp [idsOK, ownIds, lentIds, expTops, expTop, k5, ptsV, AV.stab]
    | some pn =>
      obtain ⟨p, n⟩ := pn
      rw [hf, fstV] at q
      have hn := fstU_n hf
      have hlp : l.length = pre.length + (tl.length + 1) := by rw [h1]; simp
      simp only [List.length_cons] at hn
      have b1 : (out.length + 1) * 8 ≤ 140737488355328 := by omega
      have b2 : out.length + 1 ≤ 140737488355328 := by omega
      have z : ((n : Int) == 0) = false := by simp; omega
      have z2 : ¬ (n : Int) = 0 := by omega
      have w1 : IntKind.wrap .i64 ((pre.length : Int) + (n : Int)) = ((pre.length + n : Nat) : Int) := wI (n := pre.length + n) (by omega)
      have hh : Hold (l = (pre ++ (c :: tl).take n) ++ (c :: tl).drop n ∧ (pre ++ (c :: tl).take n).length = pre.length + n ∧ (pts (c :: tl)).map (out ++ ·) = (pts ((c :: tl).drop n)).map ((out ++ [p]) ++ ·)) := by
        refine ⟨⟨?_, ?_, ?_⟩⟩
        · rw [List.append_assoc, List.take_append_drop]; exact h1
        · simp only [List.length_append, List.length_take, List.length_cons]; omega
        · rw [pts_some hf, Option.map_map']
      have hl2 : out.length ≤ 1048576 := by omega
      clear h1 h3 hf hlp
      repeat' (first | refine go1 ?_ | refine blockK_else rfl ?_ | (refine go2 fun A B a b => ?_; simp only [go_sem, *, wpK_append ty22 rfl, wpK_assignN ty22 rfl, wpK_buildSlice ty22 rfl, wpK_index, wpK_assignS, wpK_moveS, evalA_str, lenK_str, hsz, lt1, q, adoptL, adopt1, z, z2, w1, getElem?_len, getElem?_lenAdd, set_len, set_lenAdd, len_mid, ints_len, List.length_map, lt_mid, snap_sl, ints_take, List.take_length, Nat.zero_le, Bool.true_or, List.append_assoc, b1, b2, hnl]; (repeat' first | apply a.1 | apply b.1 | refine iteI (fun h => ?_) fun h => ?_) <;> clear a b A B))
      refine loopF_next (pre ++ (c :: tl).take n, (c :: tl).drop n, out ++ [p]) ?_ ⟨hh.out.1, ?_, hh.out.2.2⟩ ?_ ?_
      · simp only [List.length_drop, List.length_cons]; omega
      · rw [hh.out.2.1]; simp; omega
      · ((try simp only [eraseA_cons, eraseA_nil, setL_cons, setL_nil, List.set_cons_zero, List.set_cons_succ]); all_goals (first | rfl | (simp only [len_snoc, ints_len, List.length_map, hh.out.2.1]; done) | (simp only [len_snoc, len_mid, ints_len, List.length_map, List.length_append, List.length_cons, List.length_nil, Nat.zero_add, hh.out.2.1]; first | done | rfl)))
      · exact ⟨_, by simp [natI, ints]; rfl⟩

end Go.Eng

/- Time spans and their lists (plain): two normal lists with the same times are one. -/
namespace Go.Eng

abbrev Spn := Int × Int
def rgt (s : Spn) : Bool := decide (0 ≤ s.1) && (decide (s.1 < s.2) && decide (s.2 ≤ 86400000))
theorem rgt_iff {s : Spn} : rgt s = true ↔ 0 ≤ s.1 ∧ s.1 < s.2 ∧ s.2 ≤ 86400000 := by simp [rgt]
/-- The times of a list. -/
def Tm (l : List Spn) (t : Int) : Prop := ∃ s ∈ l, s.1 ≤ t ∧ t < s.2
theorem Tm_nil {t : Int} : ¬ Tm [] t := fun ⟨_, h, _⟩ => by cases h
theorem Tm_cons {x : Spn} {l : List Spn} {t : Int} : Tm (x :: l) t ↔ (x.1 ≤ t ∧ t < x.2) ∨ Tm l t := by simp [Tm]
theorem Tm_app {a b : List Spn} {t : Int} : Tm (a ++ b) t ↔ Tm a t ∨ Tm b t := by
  unfold Tm
  constructor
  · rintro ⟨s, h, h2⟩
    rcases List.mem_append.mp h with h | h
    · exact .inl ⟨s, h, h2⟩
    · exact .inr ⟨s, h, h2⟩
  · rintro (⟨s, h, h2⟩ | ⟨s, h, h2⟩)
    · exact ⟨s, by simp [h], h2⟩
    · exact ⟨s, by simp [h], h2⟩
structure Norm (l : List Spn) : Prop where
  rg : ∀ s ∈ l, rgt s = true
  sep : l.Pairwise fun a b => a.2 < b.1
theorem norm_nil : Norm [] := ⟨by simp, .nil⟩
theorem norm_cons {x : Spn} {l : List Spn} : Norm (x :: l) ↔ rgt x = true ∧ (∀ y ∈ l, x.2 < y.1) ∧ Norm l := by
  constructor
  · rintro ⟨h1, h2⟩
    have h3 := List.pairwise_cons.mp h2
    exact ⟨h1 x (by simp), h3.1, fun s hs => h1 s (by simp [hs]), h3.2⟩
  · rintro ⟨h1, h2, h3, h4⟩
    refine ⟨fun s hs => ?_, List.pairwise_cons.mpr ⟨h2, h4⟩⟩
    rcases List.mem_cons.mp hs with e | e
    · subst e; exact h1
    · exact h3 s e
theorem norm_app {a b : List Spn} : Norm (a ++ b) ↔ Norm a ∧ Norm b ∧ ∀ x ∈ a, ∀ y ∈ b, x.2 < y.1 := by
  constructor
  · rintro ⟨h1, h2⟩
    have h3 := List.pairwise_append.mp h2
    exact ⟨⟨fun s hs => h1 s (by simp [hs]), h3.1⟩, ⟨fun s hs => h1 s (by simp [hs]), h3.2.1⟩, h3.2.2⟩
  · rintro ⟨⟨h1, h2⟩, ⟨h3, h4⟩, h5⟩
    refine ⟨fun s hs => ?_, List.pairwise_append.mpr ⟨h2, h4, h5⟩⟩
    rcases List.mem_append.mp hs with e | e
    · exact h1 s e
    · exact h3 s e
theorem norm_one {x : Spn} : Norm [x] ↔ rgt x = true := by rw [norm_cons]; simp [norm_nil]

theorem norm_unique : ∀ {a b : List Spn}, Norm a → Norm b → (∀ t, Tm a t ↔ Tm b t) → a = b
  | [], [], _, _, _ => rfl
  | [], y :: b, _, hb, h => by
    obtain ⟨h1, _, _⟩ := norm_cons.mp hb
    have := rgt_iff.mp h1
    exact absurd ((h y.1).mpr (Tm_cons.mpr (.inl ⟨by omega, by omega⟩))) Tm_nil
  | x :: a, [], ha, _, h => by
    obtain ⟨h1, _, _⟩ := norm_cons.mp ha
    have := rgt_iff.mp h1
    exact absurd ((h x.1).mp (Tm_cons.mpr (.inl ⟨by omega, by omega⟩))) Tm_nil
  | x :: a, y :: b, ha, hb, h => by
    obtain ⟨r1, s1, n1⟩ := norm_cons.mp ha
    obtain ⟨r2, s2, n2⟩ := norm_cons.mp hb
    have e1 := rgt_iff.mp r1
    have e2 := rgt_iff.mp r2
    have la : ∀ t, Tm a t → x.2 < t := fun t ⟨s, hs, h1, _⟩ => by have := s1 s hs; omega
    have lb : ∀ t, Tm b t → y.2 < t := fun t ⟨s, hs, h1, _⟩ => by have := s2 s hs; omega
    have f1 : y.1 ≤ x.1 := by
      rcases Tm_cons.mp ((h x.1).mp (Tm_cons.mpr (.inl ⟨by omega, by omega⟩))) with k | k
      · omega
      · have := lb _ k; omega
    have f2 : x.1 ≤ y.1 := by
      rcases Tm_cons.mp ((h y.1).mpr (Tm_cons.mpr (.inl ⟨by omega, by omega⟩))) with k | k
      · omega
      · have := la _ k; omega
    have g1 : ¬ x.2 < y.2 := fun hlt => by
      rcases Tm_cons.mp ((h x.2).mpr (Tm_cons.mpr (.inl ⟨by omega, by omega⟩))) with k | k
      · omega
      · have := la _ k; omega
    have g2 : ¬ y.2 < x.2 := fun hlt => by
      rcases Tm_cons.mp ((h y.2).mp (Tm_cons.mpr (.inl ⟨by omega, by omega⟩))) with k | k
      · omega
      · have := lb _ k; omega
    have hxy : x = y := Prod.ext (by omega) (by omega)
    subst hxy
    rw [norm_unique n1 n2 fun t => ?_]
    constructor
    · intro k
      rcases Tm_cons.mp ((h t).mp (Tm_cons.mpr (.inr k))) with k2 | k2
      · have := la t k; omega
      · exact k2
    · intro k
      rcases Tm_cons.mp ((h t).mpr (Tm_cons.mpr (.inr k))) with k2 | k2
      · have := lb t k; omega
      · exact k2

/-! ### insert -/
def insGo (b a : List Spn) (s : Spn) : List Spn → List Spn
  | [] => b ++ s :: a
  | x :: l => if x.2 < s.1 then insGo (b ++ [x]) a s l else if s.2 < x.1 then insGo b (a ++ [x]) s l else insGo b a (min s.1 x.1, max s.2 x.2) l
def insS (l : List Spn) (s : Spn) : List Spn := insGo [] [] s l
theorem insGo_spec : ∀ (l b a : List Spn) (s : Spn), rgt s = true → Norm b → Norm a → Norm l → (∀ x ∈ b, x.2 < s.1) → (∀ x ∈ a, s.2 < x.1) → (∀ x ∈ b, ∀ y ∈ l, x.2 < y.1) → (∀ x ∈ a, ∀ y ∈ l, x.2 < y.1) →
    Norm (insGo b a s l) ∧ ∀ t, Tm (insGo b a s l) t ↔ Tm b t ∨ Tm a t ∨ Tm l t ∨ (s.1 ≤ t ∧ t < s.2)
  | [], b, a, s, hs, hb, ha, _, h1, h2, _, _ => by
    have e := rgt_iff.mp hs
    refine ⟨norm_app.mpr ⟨hb, norm_cons.mpr ⟨hs, h2, ha⟩, fun x hx y hy => ?_⟩, fun t => ?_⟩
    · rcases List.mem_cons.mp hy with k | k
      · subst k; exact h1 x hx
      · have := h1 x hx; have := h2 y k; omega
    · unfold insGo
      rw [Tm_app, Tm_cons]
      constructor
      · rintro (k | k | k)
        · exact .inl k
        · exact .inr (.inr (.inr k))
        · exact .inr (.inl k)
      · rintro (k | k | k | k)
        · exact .inl k
        · exact .inr (.inr k)
        · exact absurd k Tm_nil
        · exact .inr (.inl k)
  | x :: l, b, a, s, hs, hb, ha, hl, h1, h2, h3, h4 => by
    have e := rgt_iff.mp hs
    obtain ⟨rx, sx, nl⟩ := norm_cons.mp hl
    have ex := rgt_iff.mp rx
    unfold insGo
    split
    · rename_i hc
      obtain ⟨i1, i2⟩ := insGo_spec l (b ++ [x]) a s hs (norm_app.mpr ⟨hb, norm_one.mpr rx, fun y hy z hz => by
        have := List.mem_singleton.mp hz; subst this; exact h3 y hy _ (by simp)⟩) ha nl (fun y hy => by
        rcases List.mem_append.mp hy with k | k
        · exact h1 y k
        · have := List.mem_singleton.mp k; subst this; exact hc) h2 (fun y hy z hz => by
        rcases List.mem_append.mp hy with k | k
        · exact h3 y k z (by simp [hz])
        · have := List.mem_singleton.mp k; subst this; exact sx z hz) (fun y hy z hz => h4 y hy z (by simp [hz]))
      refine ⟨i1, fun t => ?_⟩
      rw [i2, Tm_app, Tm_cons, Tm_cons]
      constructor
      · rintro ((k | k | k) | k | k | k)
        · exact .inl k
        · exact .inr (.inr (.inl (.inl k)))
        · exact absurd k Tm_nil
        · exact .inr (.inl k)
        · exact .inr (.inr (.inl (.inr k)))
        · exact .inr (.inr (.inr k))
      · rintro (k | k | (k | k) | k)
        · exact .inl (.inl k)
        · exact .inr (.inl k)
        · exact .inl (.inr (.inl k))
        · exact .inr (.inr (.inl k))
        · exact .inr (.inr (.inr k))
    · rename_i hc
      split
      · rename_i hd
        obtain ⟨i1, i2⟩ := insGo_spec l b (a ++ [x]) s hs hb (norm_app.mpr ⟨ha, norm_one.mpr rx, fun y hy z hz => by
          have := List.mem_singleton.mp hz; subst this; exact h4 y hy _ (by simp)⟩) nl h1 (fun y hy => by
          rcases List.mem_append.mp hy with k | k
          · exact h2 y k
          · have := List.mem_singleton.mp k; subst this; exact hd) (fun y hy z hz => h3 y hy z (by simp [hz])) (fun y hy z hz => by
          rcases List.mem_append.mp hy with k | k
          · exact h4 y k z (by simp [hz])
          · have := List.mem_singleton.mp k; subst this; exact sx z hz)
        refine ⟨i1, fun t => ?_⟩
        rw [i2, Tm_app, Tm_cons, Tm_cons]
        constructor
        · rintro (k | (k | k | k) | k | k)
          · exact .inl k
          · exact .inr (.inl k)
          · exact .inr (.inr (.inl (.inl k)))
          · exact absurd k Tm_nil
          · exact .inr (.inr (.inl (.inr k)))
          · exact .inr (.inr (.inr k))
        · rintro (k | k | (k | k) | k)
          · exact .inl k
          · exact .inr (.inl (.inl k))
          · exact .inr (.inl (.inr (.inl k)))
          · exact .inr (.inr (.inl k))
          · exact .inr (.inr (.inr k))
      · rename_i hd
        obtain ⟨i1, i2⟩ := insGo_spec l b a (min s.1 x.1, max s.2 x.2) (rgt_iff.mpr ⟨by simp only; omega, by simp only; omega, by simp only; omega⟩) hb ha nl (fun y hy => by
          have := h1 y hy; have := h3 y hy x (by simp); simp only; omega) (fun y hy => by
          have := h2 y hy; have := h4 y hy x (by simp); have := rgt_iff.mp (ha.rg y hy); simp only; omega) (fun y hy z hz => h3 y hy z (by simp [hz])) (fun y hy z hz => h4 y hy z (by simp [hz]))
        refine ⟨i1, fun t => ?_⟩
        rw [i2, Tm_cons]
        simp only
        constructor
        · rintro (k | k | k | k)
          · exact .inl k
          · exact .inr (.inl k)
          · exact .inr (.inr (.inl (.inr k)))
          · by_cases h : s.1 ≤ t ∧ t < s.2
            · exact .inr (.inr (.inr h))
            · exact .inr (.inr (.inl (.inl (by omega))))
        · rintro (k | k | (k | k) | k)
          · exact .inl k
          · exact .inr (.inl k)
          · exact .inr (.inr (.inr (by omega)))
          · exact .inr (.inr (.inl k))
          · exact .inr (.inr (.inr (by omega)))
theorem insS_spec {l : List Spn} {s : Spn} (hl : Norm l) (hs : rgt s = true) : Norm (insS l s) ∧ ∀ t, Tm (insS l s) t ↔ Tm l t ∨ (s.1 ≤ t ∧ t < s.2) := by
  obtain ⟨h1, h2⟩ := insGo_spec l [] [] s hs norm_nil norm_nil hl (by simp) (by simp) (by simp) (by simp)
  refine ⟨h1, fun t => ?_⟩
  unfold insS
  rw [h2]
  constructor
  · rintro (k | k | k | k)
    · exact absurd k Tm_nil
    · exact absurd k Tm_nil
    · exact .inl k
    · exact .inr k
  · rintro (k | k)
    · exact .inr (.inr (.inl k))
    · exact .inr (.inr (.inr k))

/-- The reference's Union. -/
def uniR (l : List Spn) : List Spn := l.foldl (fun out x => if rgt x = true then insS out x else out) []
theorem uniGo_spec : ∀ (l out : List Spn), Norm out → Norm (l.foldl (fun out x => if rgt x = true then insS out x else out) out) ∧ ∀ t, Tm (l.foldl (fun out x => if rgt x = true then insS out x else out) out) t ↔ Tm out t ∨ Tm (l.filter fun x => rgt x) t
  | [], out, h => ⟨h, fun t => ⟨.inl, fun k => k.resolve_right (by simpa using Tm_nil)⟩⟩
  | x :: l, out, h => by
    rw [List.foldl_cons]
    by_cases hx : rgt x = true
    · rw [if_pos hx, List.filter_cons, if_pos hx]
      obtain ⟨i1, i2⟩ := insS_spec h hx
      obtain ⟨j1, j2⟩ := uniGo_spec l _ i1
      refine ⟨j1, fun t => ?_⟩
      rw [j2, i2, Tm_cons]
      constructor
      · rintro ((k | k) | k)
        · exact .inl k
        · exact .inr (.inl k)
        · exact .inr (.inr k)
      · rintro (k | k | k)
        · exact .inl (.inl k)
        · exact .inl (.inr k)
        · exact .inr k
    · rw [if_neg hx, List.filter_cons, if_neg hx]
      exact uniGo_spec l out h
/-- The times of the right spans of a list. -/
def Tr (l : List Spn) (t : Int) : Prop := Tm (l.filter fun x => rgt x) t
theorem uniR_spec (l : List Spn) : Norm (uniR l) ∧ ∀ t, Tm (uniR l) t ↔ Tr l t := by
  obtain ⟨h1, h2⟩ := uniGo_spec l [] norm_nil
  exact ⟨h1, fun t => by unfold uniR; rw [h2]; exact ⟨fun k => k.resolve_left Tm_nil, .inr⟩⟩
theorem filter_norm {l : List Spn} (h : Norm l) : (l.filter fun x => rgt x) = l := by
  rw [List.filter_eq_self]; exact h.rg
theorem Tr_norm {l : List Spn} (h : Norm l) (t : Int) : Tr l t ↔ Tm l t := by unfold Tr; rw [filter_norm h]

/-! ### The program's Union: sorted by From, then joined -/
def mrgGo (pre : List Spn) (y : Spn) : List Spn → List Spn
  | [] => pre ++ [y]
  | s :: l => if s.1 ≤ y.2 then mrgGo pre (y.1, max y.2 s.2) l else mrgGo (pre ++ [y]) s l
def mrg : List Spn → List Spn
  | [] => []
  | s :: l => mrgGo [] s l
theorem mrgGo_spec : ∀ (l pre : List Spn) (y : Spn), Norm (pre ++ [y]) → (∀ s ∈ l, rgt s = true) → (∀ s ∈ l, y.1 ≤ s.1) → (l.Pairwise fun a b => a.1 ≤ b.1) →
    Norm (mrgGo pre y l) ∧ ∀ t, Tm (mrgGo pre y l) t ↔ Tm (pre ++ [y]) t ∨ Tm l t
  | [], pre, y, h, _, _, _ => ⟨h, fun t => ⟨.inl, fun k => k.resolve_right Tm_nil⟩⟩
  | s :: l, pre, y, h, hr, hy, hp => by
    obtain ⟨n1, n2, n3⟩ := norm_app.mp h
    have ry := rgt_iff.mp (norm_one.mp n2)
    have rs := rgt_iff.mp (hr s (by simp))
    have hp' := List.pairwise_cons.mp hp
    have hys := hy s (by simp)
    unfold mrgGo
    split
    · rename_i hc
      obtain ⟨i1, i2⟩ := mrgGo_spec l pre (y.1, max y.2 s.2) (norm_app.mpr ⟨n1, norm_one.mpr (rgt_iff.mpr ⟨by simp only; omega, by simp only; omega, by simp only; omega⟩), fun x hx z hz => by
        have := List.mem_singleton.mp hz; subst this
        exact n3 x hx y (by simp)⟩) (fun z hz => hr z (by simp [hz])) (fun z hz => hy z (by simp [hz])) hp'.2
      refine ⟨i1, fun t => ?_⟩
      rw [i2, Tm_app, Tm_app, Tm_cons, Tm_cons, Tm_cons]
      simp only
      constructor
      · rintro ((k | k | k) | k)
        · exact .inl (.inl k)
        · by_cases h2 : t < y.2
          · exact .inl (.inr (.inl ⟨k.1, h2⟩))
          · exact .inr (.inl (by omega))
        · exact absurd k Tm_nil
        · exact .inr (.inr k)
      · rintro ((k | k | k) | k | k)
        · exact .inl (.inl k)
        · exact .inl (.inr (.inl (by omega)))
        · exact absurd k Tm_nil
        · exact .inl (.inr (.inl (by omega)))
        · exact .inr k
    · rename_i hc
      obtain ⟨i1, i2⟩ := mrgGo_spec l (pre ++ [y]) s (norm_app.mpr ⟨h, norm_one.mpr (hr s (by simp)), fun x hx z hz => by
        have := List.mem_singleton.mp hz; subst this
        rcases List.mem_append.mp hx with k | k
        · have := n3 x k y (by simp); omega
        · have := List.mem_singleton.mp k; subst this; omega⟩) (fun z hz => hr z (by simp [hz])) hp'.1 hp'.2
      refine ⟨i1, fun t => ?_⟩
      rw [i2, Tm_app (a := pre ++ [y]), Tm_cons (l := l), Tm_cons (l := [])]
      constructor
      · rintro ((k | k | k) | k)
        · exact .inl k
        · exact .inr (.inl k)
        · exact absurd k Tm_nil
        · exact .inr (.inr k)
      · rintro (k | k | k)
        · exact .inl (.inl k)
        · exact .inl (.inr (.inl k))
        · exact .inr k
theorem mrg_spec {l : List Spn} (hr : ∀ s ∈ l, rgt s = true) (hp : l.Pairwise fun a b => a.1 ≤ b.1) : Norm (mrg l) ∧ ∀ t, Tm (mrg l) t ↔ Tm l t := by
  cases l with
  | nil => exact ⟨norm_nil, fun t => Iff.rfl⟩
  | cons s l =>
    have hp' := List.pairwise_cons.mp hp
    obtain ⟨h1, h2⟩ := mrgGo_spec l [] s (norm_one.mpr (hr s (by simp))) (fun z hz => hr z (by simp [hz])) hp'.1 hp'.2
    refine ⟨h1, fun t => ?_⟩
    show Tm (mrgGo [] s l) t ↔ _
    rw [h2, List.nil_append, Tm_cons (l := l), Tm_cons (l := [])]
    constructor
    · rintro ((k | k) | k)
      · exact .inl k
      · exact absurd k Tm_nil
      · exact .inr k
    · rintro (k | k)
      · exact .inl (.inl k)
      · exact .inr k
/-- Whatever order equal spans take: joined, they are the reference's Union. -/
theorem mrg_uni {l m : List Spn} (h : m.Perm (l.filter fun x => rgt x)) (hp : m.Pairwise fun a b => a.1 ≤ b.1) : mrg m = uniR l := by
  have hr : ∀ s ∈ m, rgt s = true := fun s hs => by
    have := (h.mem_iff).mp hs
    simpa using (List.mem_filter.mp this).2
  obtain ⟨h1, h2⟩ := mrg_spec hr hp
  obtain ⟨h3, h4⟩ := uniR_spec l
  refine norm_unique h1 h3 fun t => ?_
  rw [h2, h4]
  unfold Tr Tm
  constructor
  · rintro ⟨s, hs, k⟩; exact ⟨s, h.mem_iff.mp hs, k⟩
  · rintro ⟨s, hs, k⟩; exact ⟨s, h.mem_iff.mpr hs, k⟩
end Go.Eng

/- Time spans and their lists (plain): Both, Minus, Covers, Total. -/
namespace Go.Eng

def cap (a b : Spn) : Spn := (max a.1 b.1, min a.2 b.2)
/-- The program's Both of two normal lists. -/
def bothGo : List Spn → List Spn → List Spn
  | [], _ => []
  | _ :: _, [] => []
  | a :: ar, b :: bs => (if (cap a b).1 < (cap a b).2 then [cap a b] else []) ++ (if a.2 < b.2 then bothGo ar (b :: bs) else bothGo (a :: ar) bs)
  termination_by a b => a.length + b.length
theorem Tm_lo {x : Spn} {l : List Spn} (h : ∀ y ∈ l, x.2 < y.1) {t : Int} (ht : Tm l t) : x.2 < t := by
  obtain ⟨s, hs, h1, _⟩ := ht
  have := h s hs; omega
theorem mem_Tm {l : List Spn} (h : Norm l) {s : Spn} (hs : s ∈ l) : Tm l s.1 := by
  have := rgt_iff.mp (h.rg s hs)
  exact ⟨s, hs, by omega, by omega⟩
theorem bothGo_spec : ∀ (n : Nat) (a b : List Spn), a.length + b.length ≤ n → Norm a → Norm b → Norm (bothGo a b) ∧ ∀ t, Tm (bothGo a b) t ↔ Tm a t ∧ Tm b t := by
  intro n
  induction n with
  | zero =>
    intro a b h _ _
    have : a = [] := List.eq_nil_of_length_eq_zero (by omega)
    subst this
    rw [bothGo]
    exact ⟨norm_nil, fun t => ⟨fun k => absurd k Tm_nil, fun k => absurd k.1 Tm_nil⟩⟩
  | succ n ih =>
    intro a b h ha hb
    cases a with
    | nil => rw [bothGo]; exact ⟨norm_nil, fun t => ⟨fun k => absurd k Tm_nil, fun k => absurd k.1 Tm_nil⟩⟩
    | cons x ar =>
      cases b with
      | nil => rw [bothGo]; exact ⟨norm_nil, fun t => ⟨fun k => absurd k Tm_nil, fun k => absurd k.2 Tm_nil⟩⟩
      | cons y bs =>
        obtain ⟨rx, sx, nx⟩ := norm_cons.mp ha
        obtain ⟨ry, sy, ny⟩ := norm_cons.mp hb
        have ex := rgt_iff.mp rx
        have ey := rgt_iff.mp ry
        have hc1 : (cap x y).1 = max x.1 y.1 := rfl
        have hc2 : (cap x y).2 = min x.2 y.2 := rfl
        have hcap : ∀ t, Tm (if (cap x y).1 < (cap x y).2 then [cap x y] else []) t ↔ (x.1 ≤ t ∧ t < x.2) ∧ (y.1 ≤ t ∧ t < y.2) := by
          intro t
          split
          · rw [Tm_cons, hc1, hc2]
            constructor
            · rintro (k | k)
              · omega
              · exact absurd k Tm_nil
            · intro k; left; omega
          · rename_i hn
            rw [hc1, hc2] at hn
            constructor
            · intro k; exact absurd k Tm_nil
            · intro k; omega
        have hnc : Norm (if (cap x y).1 < (cap x y).2 then [cap x y] else []) := by
          split
          · rename_i hn
            rw [hc1, hc2] at hn
            exact norm_one.mpr (rgt_iff.mpr ⟨by rw [hc1]; omega, by rw [hc1, hc2]; omega, by rw [hc2]; omega⟩)
          · exact norm_nil
        rw [bothGo]
        by_cases hlt : x.2 < y.2
        · rw [if_pos hlt]
          obtain ⟨i1, i2⟩ := ih ar (y :: bs) (by simp at h ⊢; omega) nx hb
          refine ⟨norm_app.mpr ⟨hnc, i1, fun s hs z hz => ?_⟩, fun t => ?_⟩
          · have h1 := (i2 z.1).mp (mem_Tm i1 hz)
            have h2 := Tm_lo sx h1.1
            split at hs
            · have := List.mem_singleton.mp hs; subst this; rw [hc2]; omega
            · cases hs
          · rw [Tm_app, hcap, i2, Tm_cons (l := ar)]
            constructor
            · rintro (k | k)
              · exact ⟨.inl k.1, Tm_cons.mpr (.inl k.2)⟩
              · exact ⟨.inr k.1, k.2⟩
            · rintro ⟨k | k, k2⟩
              · rcases Tm_cons.mp k2 with k3 | k3
                · exact .inl ⟨k, k3⟩
                · have := Tm_lo sy k3; omega
              · exact .inr ⟨k, k2⟩
        · rw [if_neg hlt]
          obtain ⟨i1, i2⟩ := ih (x :: ar) bs (by simp at h ⊢; omega) ha ny
          refine ⟨norm_app.mpr ⟨hnc, i1, fun s hs z hz => ?_⟩, fun t => ?_⟩
          · have h1 := (i2 z.1).mp (mem_Tm i1 hz)
            have h2 := Tm_lo sy h1.2
            split at hs
            · have := List.mem_singleton.mp hs; subst this; rw [hc2]; omega
            · cases hs
          · rw [Tm_app, hcap, i2, Tm_cons (l := bs)]
            constructor
            · rintro (k | k)
              · exact ⟨Tm_cons.mpr (.inl k.1), .inl k.2⟩
              · exact ⟨k.1, .inr k.2⟩
            · rintro ⟨k2, k | k⟩
              · rcases Tm_cons.mp k2 with k3 | k3
                · exact .inl ⟨k3, k⟩
                · have := Tm_lo sx k3; omega
              · exact .inr ⟨k2, k⟩
def bothP (a b : List Spn) : List Spn := bothGo (uniR a) (uniR b)
theorem bothP_spec (a b : List Spn) : Norm (bothP a b) ∧ ∀ t, Tm (bothP a b) t ↔ Tr a t ∧ Tr b t := by
  obtain ⟨h1, h2⟩ := uniR_spec a
  obtain ⟨h3, h4⟩ := uniR_spec b
  obtain ⟨h5, h6⟩ := bothGo_spec _ _ _ (Nat.le_refl _) h1 h3
  exact ⟨h5, fun t => by unfold bothP; rw [h6, h2, h4]⟩

/-- The reference's Both. -/
def bothIn (x : Spn) (b out : List Spn) : List Spn := b.foldl (fun out y => if rgt x = true ∧ rgt y = true ∧ rgt (cap x y) = true then insS out (cap x y) else out) out
def bothR (a b : List Spn) : List Spn := a.foldl (fun out x => bothIn x b out) []
theorem bothIn_spec (x : Spn) : ∀ (b out : List Spn), Norm out → Norm (bothIn x b out) ∧ ∀ t, Tm (bothIn x b out) t ↔ Tm out t ∨ ((rgt x = true ∧ x.1 ≤ t ∧ t < x.2) ∧ Tr b t)
  | [], out, h => ⟨h, fun t => ⟨.inl, fun k => k.resolve_right fun k => by
      have := k.2; unfold Tr at this; simp at this; exact Tm_nil this⟩⟩
  | y :: b, out, h => by
    unfold bothIn
    rw [List.foldl_cons]
    have hy : ∀ t, Tr (y :: b) t ↔ (rgt y = true ∧ y.1 ≤ t ∧ t < y.2) ∨ Tr b t := by
      intro t
      unfold Tr
      rw [List.filter_cons]
      split
      · rename_i hr; rw [Tm_cons]
        constructor
        · rintro (k | k)
          · exact .inl ⟨hr, k⟩
          · exact .inr k
        · rintro (k | k)
          · exact .inl k.2
          · exact .inr k
      · rename_i hr
        constructor
        · exact .inr
        · rintro (k | k)
          · exact absurd k.1 hr
          · exact k
    by_cases hc : rgt x = true ∧ rgt y = true ∧ rgt (cap x y) = true
    · rw [if_pos hc]
      obtain ⟨j1, j2⟩ := insS_spec h hc.2.2
      obtain ⟨i1, i2⟩ := bothIn_spec x b _ j1
      refine ⟨i1, fun t => ?_⟩
      show Tm (bothIn x b (insS out (cap x y))) t ↔ _
      rw [i2, j2, hy]
      simp only [cap]
      constructor
      · rintro ((k | k) | k)
        · exact .inl k
        · exact .inr ⟨⟨hc.1, by omega⟩, .inl ⟨hc.2.1, by omega⟩⟩
        · exact .inr ⟨k.1, .inr k.2⟩
      · rintro (k | ⟨k, k2 | k2⟩)
        · exact .inl (.inl k)
        · exact .inl (.inr (by omega))
        · exact .inr ⟨k, k2⟩
    · rw [if_neg hc]
      obtain ⟨i1, i2⟩ := bothIn_spec x b out h
      refine ⟨i1, fun t => ?_⟩
      show Tm (bothIn x b out) t ↔ _
      rw [i2, hy]
      constructor
      · rintro (k | k)
        · exact .inl k
        · exact .inr ⟨k.1, .inr k.2⟩
      · rintro (k | ⟨k, k2 | k2⟩)
        · exact .inl k
        · exfalso
          apply hc
          have e1 := rgt_iff.mp k.1
          have e2 := rgt_iff.mp k2.1
          refine ⟨k.1, k2.1, rgt_iff.mpr ?_⟩
          simp only [cap]; omega
        · exact .inr ⟨k, k2⟩
theorem bothR_go (b : List Spn) : ∀ (a out : List Spn), Norm out → Norm (a.foldl (fun out x => bothIn x b out) out) ∧ ∀ t, Tm (a.foldl (fun out x => bothIn x b out) out) t ↔ Tm out t ∨ (Tr a t ∧ Tr b t)
  | [], out, h => ⟨h, fun t => ⟨.inl, fun k => k.resolve_right fun k => by
      have := k.1; unfold Tr at this; simp at this; exact Tm_nil this⟩⟩
  | x :: a, out, h => by
    rw [List.foldl_cons]
    obtain ⟨j1, j2⟩ := bothIn_spec x b out h
    obtain ⟨i1, i2⟩ := bothR_go b a _ j1
    refine ⟨i1, fun t => ?_⟩
    rw [i2, j2]
    unfold Tr
    rw [List.filter_cons]
    split
    · rename_i hr
      rw [Tm_cons]
      constructor
      · rintro ((k | k) | k)
        · exact .inl k
        · exact .inr ⟨.inl k.1.2, k.2⟩
        · exact .inr ⟨.inr k.1, k.2⟩
      · rintro (k | ⟨k | k, k2⟩)
        · exact .inl (.inl k)
        · exact .inl (.inr ⟨⟨hr, k⟩, k2⟩)
        · exact .inr ⟨k, k2⟩
    · rename_i hr
      constructor
      · rintro ((k | k) | k)
        · exact .inl k
        · exact absurd k.1.1 hr
        · exact .inr k
      · rintro (k | k)
        · exact .inl (.inl k)
        · exact .inr k
theorem bothR_spec (a b : List Spn) : Norm (bothR a b) ∧ ∀ t, Tm (bothR a b) t ↔ Tr a t ∧ Tr b t := by
  obtain ⟨h1, h2⟩ := bothR_go b a [] norm_nil
  exact ⟨h1, fun t => by unfold bothR; rw [h2]; exact ⟨fun k => k.resolve_left Tm_nil, .inr⟩⟩
theorem bothP_eq (a b : List Spn) : bothP a b = bothR a b := by
  obtain ⟨h1, h2⟩ := bothP_spec a b
  obtain ⟨h3, h4⟩ := bothR_spec a b
  exact norm_unique h1 h3 fun t => by rw [h2, h4]

/-! ### Minus -/
def gapsGo (at_ : Int) : List Spn → List Spn
  | [] => [(at_, 86400000)]
  | s :: l => (at_, s.1) :: gapsGo s.2 l
def minusP (a b : List Spn) : List Spn := bothP a (gapsGo 0 (uniR b))
theorem gaps_spec : ∀ (l : List Spn) (at_ : Int), Norm l → 0 ≤ at_ → (∀ s ∈ l, at_ ≤ s.1) → ∀ t, Tr (gapsGo at_ l) t ↔ (at_ ≤ t ∧ t < 86400000) ∧ ¬ Tm l t
  | [], at_, _, h0, _, t => by
    unfold Tr gapsGo
    rw [List.filter_cons]
    split
    · rw [List.filter_nil, Tm_cons]
      constructor
      · rintro (k | k)
        · exact ⟨k, Tm_nil⟩
        · exact absurd k Tm_nil
      · intro k; exact .inl k.1
    · rename_i hr
      have hr' : ¬ (0 ≤ at_ ∧ at_ < 86400000 ∧ (86400000 : Int) ≤ 86400000) := fun k => hr (rgt_iff.mpr k)
      rw [List.filter_nil]
      constructor
      · intro k; exact absurd k Tm_nil
      · intro k; exfalso; apply hr'; omega
  | s :: l, at_, hn, h0, hl, t => by
    obtain ⟨rs, ss, nl⟩ := norm_cons.mp hn
    have es := rgt_iff.mp rs
    have h1 := hl s (by simp)
    have ih := gaps_spec l s.2 nl (by omega) (fun z hz => by have := ss z hz; omega) t
    unfold Tr at ih ⊢
    unfold gapsGo
    rw [List.filter_cons]
    have hlo : Tm l t → s.2 < t := Tm_lo ss
    split
    · rw [Tm_cons, ih, Tm_cons]
      simp only
      constructor
      · rintro (k | k)
        · refine ⟨by omega, ?_⟩
          rintro (k2 | k2)
          · omega
          · have := hlo k2; omega
        · refine ⟨by omega, ?_⟩
          rintro (k2 | k2)
          · omega
          · exact k.2 k2
      · rintro ⟨k, k2⟩
        by_cases h2 : t < s.1
        · left; omega
        · right
          refine ⟨⟨?_, by omega⟩, fun k3 => k2 (.inr k3)⟩
          apply Classical.byContradiction
          intro h3
          exact k2 (.inl ⟨by omega, by omega⟩)
    · rename_i hr
      have hr' : ¬ (0 ≤ at_ ∧ at_ < s.1 ∧ s.1 ≤ 86400000) := fun k => hr (rgt_iff.mpr k)
      rw [ih, Tm_cons]
      constructor
      · rintro ⟨k, k2⟩
        refine ⟨by omega, ?_⟩
        rintro (k3 | k3)
        · omega
        · exact k2 k3
      · rintro ⟨k, k2⟩
        refine ⟨⟨?_, by omega⟩, fun k3 => k2 (.inr k3)⟩
        apply Classical.byContradiction
        intro h3
        exact k2 (.inl ⟨by omega, by omega⟩)
theorem Tr_range {l : List Spn} {t : Int} (h : Tr l t) : 0 ≤ t ∧ t < 86400000 := by
  obtain ⟨s, hs, h1, h2⟩ := h
  have := rgt_iff.mp (by simpa using (List.mem_filter.mp hs).2)
  omega
theorem minusP_spec (a b : List Spn) : Norm (minusP a b) ∧ ∀ t, Tm (minusP a b) t ↔ Tr a t ∧ ¬ Tr b t := by
  obtain ⟨h1, h2⟩ := bothP_spec a (gapsGo 0 (uniR b))
  obtain ⟨h3, h4⟩ := uniR_spec b
  refine ⟨h1, fun t => ?_⟩
  unfold minusP
  rw [h2, gaps_spec _ 0 h3 (by omega) (fun s hs => by have := rgt_iff.mp (h3.rg s hs); omega), h4]
  constructor
  · exact fun k => ⟨k.1, k.2.2⟩
  · exact fun k => ⟨k.1, Tr_range k.1, k.2⟩

/-- The reference's Minus. -/
def wo1 (s x : Spn) : List Spn := (if rgt (x.1, min x.2 s.1) = true then [(x.1, min x.2 s.1)] else []) ++ (if rgt (max x.1 s.2, x.2) = true then [(max x.1 s.2, x.2)] else [])
def wo (l : List Spn) (s : Spn) : List Spn := l.flatMap (wo1 s)
def minusR (a b : List Spn) : List Spn := b.foldl (fun out s => if rgt s = true then wo out s else out) (uniR a)
theorem wo1_spec {s x : Spn} (hs : rgt s = true) (hx : rgt x = true) : Norm (wo1 s x) ∧ (∀ t, Tm (wo1 s x) t ↔ (x.1 ≤ t ∧ t < x.2) ∧ ¬ (s.1 ≤ t ∧ t < s.2)) := by
  have es := rgt_iff.mp hs
  have ex := rgt_iff.mp hx
  have h1 : ∀ t, Tm (if rgt (x.1, min x.2 s.1) = true then [(x.1, min x.2 s.1)] else []) t ↔ x.1 ≤ t ∧ t < min x.2 s.1 := by
    intro t
    split
    · rw [Tm_cons]; exact ⟨fun k => k.resolve_right Tm_nil, .inl⟩
    · rename_i hr
      have hr' : ¬ (0 ≤ x.1 ∧ x.1 < min x.2 s.1 ∧ min x.2 s.1 ≤ 86400000) := fun k => hr (rgt_iff.mpr k)
      exact ⟨fun k => absurd k Tm_nil, fun k => by exfalso; apply hr'; omega⟩
  have h2 : ∀ t, Tm (if rgt (max x.1 s.2, x.2) = true then [(max x.1 s.2, x.2)] else []) t ↔ max x.1 s.2 ≤ t ∧ t < x.2 := by
    intro t
    split
    · rw [Tm_cons]; exact ⟨fun k => k.resolve_right Tm_nil, .inl⟩
    · rename_i hr
      have hr' : ¬ (0 ≤ max x.1 s.2 ∧ max x.1 s.2 < x.2 ∧ x.2 ≤ 86400000) := fun k => hr (rgt_iff.mpr k)
      exact ⟨fun k => absurd k Tm_nil, fun k => by exfalso; apply hr'; omega⟩
  refine ⟨norm_app.mpr ⟨?_, ?_, ?_⟩, fun t => ?_⟩
  · split
    · rename_i hr; exact norm_one.mpr hr
    · exact norm_nil
  · split
    · rename_i hr; exact norm_one.mpr hr
    · exact norm_nil
  · intro u hu z hz
    split at hu
    · have := List.mem_singleton.mp hu; subst this
      split at hz
      · have := List.mem_singleton.mp hz; subst this
        simp only; omega
      · cases hz
    · cases hu
  · unfold wo1
    rw [Tm_app, h1, h2]
    omega
theorem wo_spec {s : Spn} (hs : rgt s = true) : ∀ {l : List Spn}, Norm l → Norm (wo l s) ∧ ∀ t, Tm (wo l s) t ↔ Tm l t ∧ ¬ (s.1 ≤ t ∧ t < s.2)
  | [], _ => ⟨norm_nil, fun t => ⟨fun k => absurd k Tm_nil, fun k => absurd k.1 Tm_nil⟩⟩
  | x :: l, h => by
    obtain ⟨rx, sx, nl⟩ := norm_cons.mp h
    obtain ⟨i1, i2⟩ := wo_spec hs nl
    obtain ⟨j1, j2⟩ := wo1_spec hs rx
    have e : wo (x :: l) s = wo1 s x ++ wo l s := rfl
    rw [e]
    refine ⟨norm_app.mpr ⟨j1, i1, fun u hu z hz => ?_⟩, fun t => ?_⟩
    · have hz1 := Tm_lo sx ((i2 z.1).mp (mem_Tm i1 hz)).1
      have hu1 := rgt_iff.mp (j1.rg u hu)
      have hu2 := (j2 (u.2 - 1)).mp ⟨u, hu, by omega, by omega⟩
      omega
    · rw [Tm_app, i2, j2, Tm_cons]
      constructor
      · rintro (k | k)
        · exact ⟨.inl k.1, k.2⟩
        · exact ⟨.inr k.1, k.2⟩
      · rintro ⟨k | k, k2⟩
        · exact .inl ⟨k, k2⟩
        · exact .inr ⟨k, k2⟩
theorem minusR_go : ∀ (b out : List Spn), Norm out → Norm (b.foldl (fun out s => if rgt s = true then wo out s else out) out) ∧ ∀ t, Tm (b.foldl (fun out s => if rgt s = true then wo out s else out) out) t ↔ Tm out t ∧ ¬ Tr b t
  | [], out, h => ⟨h, fun t => ⟨fun k => ⟨k, by unfold Tr; simpa using Tm_nil⟩, fun k => k.1⟩⟩
  | s :: b, out, h => by
    rw [List.foldl_cons]
    unfold Tr
    rw [List.filter_cons]
    by_cases hs : rgt s = true
    · rw [if_pos hs, if_pos hs]
      obtain ⟨j1, j2⟩ := wo_spec hs h
      obtain ⟨i1, i2⟩ := minusR_go b _ j1
      refine ⟨i1, fun t => ?_⟩
      rw [i2, j2, Tm_cons]
      unfold Tr
      constructor
      · rintro ⟨⟨k1, k2⟩, k3⟩
        exact ⟨k1, fun k => by rcases k with k | k; exact k2 k; exact k3 k⟩
      · rintro ⟨k1, k2⟩
        exact ⟨⟨k1, fun k => k2 (.inl k)⟩, fun k => k2 (.inr k)⟩
    · rw [if_neg hs, if_neg hs]
      exact minusR_go b out h
theorem minusR_spec (a b : List Spn) : Norm (minusR a b) ∧ ∀ t, Tm (minusR a b) t ↔ Tr a t ∧ ¬ Tr b t := by
  obtain ⟨h3, h4⟩ := uniR_spec a
  obtain ⟨h1, h2⟩ := minusR_go b (uniR a) h3
  exact ⟨h1, fun t => by unfold minusR; rw [h2, h4]⟩
theorem minusP_eq (a b : List Spn) : minusP a b = minusR a b := by
  obtain ⟨h1, h2⟩ := minusP_spec a b
  obtain ⟨h3, h4⟩ := minusR_spec a b
  exact norm_unique h1 h3 fun t => by rw [h2, h4]

/-! ### Covers -/
def covP (l : List Spn) (s : Spn) : Bool := rgt s && (uniR l).any fun x => decide (x.1 ≤ s.1) && decide (s.2 ≤ x.2)
theorem norm_cover {l : List Spn} (h : Norm l) {s : Spn} (hs : s.1 < s.2) : (∀ t, s.1 ≤ t → t < s.2 → Tm l t) ↔ ∃ x ∈ l, x.1 ≤ s.1 ∧ s.2 ≤ x.2 := by
  constructor
  · intro hc
    obtain ⟨x, hx, h1, h2⟩ := hc s.1 (by omega) hs
    refine ⟨x, hx, h1, ?_⟩
    apply Classical.byContradiction
    intro hn
    obtain ⟨y, hy, h3, h4⟩ := hc x.2 (by omega) (by omega)
    have ex := rgt_iff.mp (h.rg x hx)
    have ey := rgt_iff.mp (h.rg y hy)
    obtain ⟨A, B, e⟩ := List.append_of_mem hx
    subst e
    obtain ⟨n1, n2, n3⟩ := norm_app.mp h
    obtain ⟨_, n4, _⟩ := norm_cons.mp n2
    rcases List.mem_append.mp hy with k | k
    · have := n3 y k x (by simp); omega
    · rcases List.mem_cons.mp k with k | k
      · subst k; omega
      · have := n4 y k; omega
  · rintro ⟨x, hx, h1, h2⟩ t h3 h4
    exact ⟨x, hx, by omega, by omega⟩
theorem covP_iff (l : List Spn) (s : Spn) : covP l s = true ↔ rgt s = true ∧ ∀ t, s.1 ≤ t → t < s.2 → Tr l t := by
  obtain ⟨h1, h2⟩ := uniR_spec l
  unfold covP
  rw [Bool.and_eq_true]
  constructor
  · rintro ⟨k1, k2⟩
    have e := rgt_iff.mp k1
    refine ⟨k1, fun t a b => (h2 t).mp ((norm_cover h1 e.2.1).mpr ?_ t a b)⟩
    rw [List.any_eq_true] at k2
    obtain ⟨x, hx, h⟩ := k2
    exact ⟨x, hx, by simpa using h⟩
  · rintro ⟨k1, k2⟩
    have e := rgt_iff.mp k1
    refine ⟨k1, ?_⟩
    rw [List.any_eq_true]
    obtain ⟨x, hx, h⟩ := (norm_cover h1 e.2.1).mp fun t a b => (h2 t).mpr (k2 t a b)
    exact ⟨x, hx, by simpa using h⟩
theorem norm_empty {l : List Spn} (h : Norm l) : l = [] ↔ ∀ t, ¬ Tm l t := by
  constructor
  · rintro rfl t; exact Tm_nil
  · intro k
    cases l with
    | nil => rfl
    | cons x l => exact absurd (mem_Tm h (s := x) (by simp)) (k x.1)
theorem Tr_single {s : Spn} (hs : rgt s = true) (t : Int) : Tr [s] t ↔ s.1 ≤ t ∧ t < s.2 := by
  unfold Tr
  rw [List.filter_cons, if_pos hs, List.filter_nil, Tm_cons]
  exact ⟨fun k => k.resolve_right Tm_nil, .inl⟩
/-- The reference's Covers. -/
def covR (l : List Spn) (s : Spn) : Bool := rgt s && decide ((minusR [s] l).length = 0)
theorem cov_eq (l : List Spn) (s : Spn) : covP l s = covR l s := by
  rw [Bool.eq_iff_iff, covP_iff]
  unfold covR
  rw [Bool.and_eq_true, decide_eq_true_eq, List.length_eq_zero_iff]
  obtain ⟨h1, h2⟩ := minusR_spec [s] l
  rw [norm_empty h1]
  constructor
  · rintro ⟨k1, k2⟩
    refine ⟨k1, fun t ht => ?_⟩
    rw [h2, Tr_single k1] at ht
    exact ht.2 (k2 t ht.1.1 ht.1.2)
  · rintro ⟨k1, k2⟩
    refine ⟨k1, fun t a b => ?_⟩
    apply Classical.byContradiction
    intro hn
    exact k2 t ((h2 t).mpr ⟨(Tr_single k1 t).mpr ⟨a, b⟩, hn⟩)

/-! ### Total -/
def tot (l : List Spn) : Int := (l.map fun s => s.2 - s.1).sum
theorem cnt_ival (a b : Nat) : ∀ n : Nat, (List.range n).countP (fun t => decide (a ≤ t) && decide (t < b)) = min b n - min a n
  | 0 => by simp
  | n + 1 => by
    rw [List.range_succ, List.countP_append, cnt_ival a b n, List.countP_cons, List.countP_nil]
    by_cases h : a ≤ n ∧ n < b
    · have e : (decide (a ≤ n) && decide (n < b)) = true := by simp [h]
      rw [if_pos e]; omega
    · have e : ¬ (decide (a ≤ n) && decide (n < b)) = true := by simpa using h
      rw [if_neg e]; omega
theorem cnt_or {p q r : Nat → Bool} (l : List Nat) (h : ∀ t, r t = (p t || q t)) (hd : ∀ t, ¬ (p t = true ∧ q t = true)) : l.countP r = l.countP p + l.countP q := by
  induction l with
  | nil => rfl
  | cons x l ih =>
    rw [List.countP_cons, List.countP_cons, List.countP_cons, ih, h x]
    have := hd x
    cases hp : p x <;> cases hq : q x <;> simp [hp, hq] at this ⊢ <;> omega
def tmB (l : List Spn) (t : Nat) : Bool := l.any fun s => decide (s.1 ≤ (t : Int)) && decide ((t : Int) < s.2)
theorem tmB_iff (l : List Spn) (t : Nat) : tmB l t = true ↔ Tm l (t : Int) := by
  unfold tmB Tm
  rw [List.any_eq_true]
  constructor
  · rintro ⟨s, hs, h⟩; exact ⟨s, hs, by simpa using h⟩
  · rintro ⟨s, hs, h⟩; exact ⟨s, hs, by simpa using h⟩
theorem tot_cnt : ∀ {l : List Spn}, Norm l → tot l = (((List.range 86400000).countP (tmB l) : Nat) : Int)
  | [], _ => by
    have : (List.range 86400000).countP (tmB []) = 0 := by
      rw [List.countP_eq_zero]; intro t _; simp [tmB]
    rw [this]; rfl
  | x :: l, h => by
    obtain ⟨rx, sx, nl⟩ := norm_cons.mp h
    have ex := rgt_iff.mp rx
    have ih := tot_cnt nl
    have e : tot (x :: l) = (x.2 - x.1) + tot l := by simp [tot]
    have hc : (List.range 86400000).countP (tmB (x :: l)) = (List.range 86400000).countP (fun t => decide (x.1.toNat ≤ t) && decide (t < x.2.toNat)) + (List.range 86400000).countP (tmB l) := by
      refine cnt_or _ (fun t => ?_) fun t => ?_
      · rw [Bool.eq_iff_iff, tmB_iff, Tm_cons, Bool.or_eq_true, tmB_iff, Bool.and_eq_true, decide_eq_true_eq, decide_eq_true_eq]
        constructor
        · rintro (k | k)
          · left; omega
          · exact .inr k
        · rintro (k | k)
          · left; omega
          · exact .inr k
      · rintro ⟨k1, k2⟩
        rw [Bool.and_eq_true, decide_eq_true_eq, decide_eq_true_eq] at k1
        have := Tm_lo sx ((tmB_iff l t).mp k2)
        omega
    rw [e, ih, hc, cnt_ival]
    omega
theorem tot_split {a x y : List Spn} (ha : Norm a) (hx : Norm x) (hy : Norm y) (h : ∀ t, Tm a t ↔ Tm x t ∨ Tm y t) (hd : ∀ t, ¬ (Tm x t ∧ Tm y t)) : tot a = tot x + tot y := by
  have := cnt_or (p := tmB x) (q := tmB y) (r := tmB a) (List.range 86400000) (fun t => by
    rw [Bool.eq_iff_iff, Bool.or_eq_true, tmB_iff, tmB_iff, tmB_iff]; exact h t) (fun t => by
    rw [tmB_iff, tmB_iff]; exact hd t)
  rw [tot_cnt ha, tot_cnt hx, tot_cnt hy, this]
  omega
theorem tot_le {l : List Spn} (h : Norm l) : 0 ≤ tot l ∧ tot l ≤ 86400000 := by
  rw [tot_cnt h]
  have := List.countP_le_length (p := tmB l) (l := List.range 86400000)
  rw [List.length_range] at this
  omega
/-! ### What the laws say -/
theorem uni_norm {l : List Spn} (h : Norm l) : uniR l = l := by
  obtain ⟨h1, h2⟩ := uniR_spec l
  exact norm_unique h1 h fun t => by rw [h2, Tr_norm h]
theorem law_total (a b : List Spn) : tot (uniR a) = tot (uniR (bothP a b)) + tot (uniR (minusP a b)) ∧ tot (uniR (uniR a)) = tot (uniR a) := by
  obtain ⟨h1, h2⟩ := uniR_spec a
  obtain ⟨h3, h4⟩ := bothP_spec a b
  obtain ⟨h5, h6⟩ := minusP_spec a b
  rw [uni_norm h1, uni_norm h3, uni_norm h5]
  refine ⟨tot_split h1 h3 h5 (fun t => ?_) fun t => ?_, rfl⟩
  · rw [h2, h4, h6]
    constructor
    · intro k
      by_cases hb : Tr b t
      · exact .inl ⟨k, hb⟩
      · exact .inr ⟨k, hb⟩
    · rintro (k | k)
      · exact k.1
      · exact k.1
  · rw [h4, h6]
    rintro ⟨k1, k2⟩
    exact k2.2 k1.2
theorem law_again (a b : List Spn) : uniR (uniR a) = uniR a ∧ uniR (bothP a b ++ minusP a b) = uniR a := by
  obtain ⟨h1, h2⟩ := uniR_spec a
  obtain ⟨h3, h4⟩ := bothP_spec a b
  obtain ⟨h5, h6⟩ := minusP_spec a b
  refine ⟨uni_norm h1, ?_⟩
  obtain ⟨h7, h8⟩ := uniR_spec (bothP a b ++ minusP a b)
  refine norm_unique h7 h1 fun t => ?_
  rw [h8, h2]
  have e : Tr (bothP a b ++ minusP a b) t ↔ Tm (bothP a b) t ∨ Tm (minusP a b) t := by
    unfold Tr
    rw [List.filter_append, filter_norm h3, filter_norm h5, Tm_app]
  rw [e, h4, h6]
  constructor
  · rintro (k | k)
    · exact k.1
    · exact k.1
  · intro k
    by_cases hb : Tr b t
    · exact .inl ⟨k, hb⟩
    · exact .inr ⟨k, hb⟩
theorem law_cov (l : List Spn) (s : Spn) : covP l s = (rgt s && decide ((minusP [s] l).length = 0)) := by rw [cov_eq, covR, minusP_eq]
theorem law_part {l : List Spn} {s p : Spn} (h : covP l s = true) (hp : rgt p = true) (h1 : s.1 ≤ p.1) (h2 : p.2 ≤ s.2) : covP l p = true := by
  rw [covP_iff] at h ⊢
  exact ⟨hp, fun t a b => h.2 t (by omega) (by omega)⟩
end Go.Eng

/- Lists of spans as rows (for seats without the program's own lists of spans). -/
namespace Go.Eng.Fo
open Go.Proofs
set_option linter.unusedSimpArgs false
set_option linter.unusedVariables false
attribute [local irreducible] wpC wpO wp1 EvV EvR wpL
attribute [local go_sem] reduceIte Nat.reduceAdd Nat.reduceEqDiff Nat.reduceLT Nat.reduceLeDiff beq_iff_eq beq_eq_false_iff_ne Int.natCast_inj Bool.not_eq_false' op1_go wpK_box wpK_alloc wpK_load wpK_store wpK_binOp wpK_unOp wpK_fieldAddr wpK_field wpK_build wpK_indexAddr wpK_slice wpK_len wpK_extract wpK_nilCheck wpK_pick wpK_makeFunc wpK_call wpK_callT wpK_max wpK_min wpK_assignT wpK_moveT wpK_assignB wpK_moveB wpK_assignI wpK_moveI wpK_assignA wpK_moveA callK_fn snapL_nil snapL_cons snap_int snap_bool snap_str snap_tsl snap_agg snap_fn snap_flat adopt_int adopt_bool adopt_str adopt_agg adopt_osl adopt_tsl adopt_tup op1_guard grdK_bool grdK_undef condK_bool someK_some pairK_some nilK_ptr nilK_tptr boxK storeK evalA_tmp evalA_int evalA_bool evalA_agg evalA_fn evalA_nil ofC_int ofC_bool getA_zero getA_succ cells_int cells_agg cells_bool cells_sl cells_tsl cell_int cell_bool cell_str cell_sl cell_esl cell_tsl cell_ptr cell_tptr cell_fn cell_nils cell_nilf List.all_cons List.all_nil Bool.and_true Bool.and_self Bool.true_and putA_some putA_none List.set_cons_zero List.set_cons_succ List.length_cons List.length_nil List.nil_append List.cons_append stabL AV.stab fieldAddrA fieldA List.getElem?_cons_zero List.getElem?_cons_succ Nat.zero_add loadA rowOf Nat.le_refl and_self true_and and_true partA binA unA intBin eqBin eqCells eqCell Option.bind_some decide_true decide_false decide_eq_true_eq ite_not Bool.not_eq_true' decide_eq_false_iff_not Bool.false_eq_true Option.map_some Option.map_none Bool.not_true Bool.not_false buildA fillA patch List.take List.drop List.map_cons List.map_nil extK List.getD_cons_zero List.getD_cons_succ minmaxA minmaxGo adoptZ_false adoptZ_true freeze_int freeze_bool freeze_str freeze_flat freeze_agg freeze_osl freeze_tsl freeze_tup frz1_bool frz1_int frz1_str frz1_agg frz1_osl frz1_tsl bne Bool.false_and Bool.and_false ne_eq not_true_eq_false not_false_eq_true List.append_nil resultsR resultsL resultA expK_int expK_bool expK_str expK_agg expK_own expK_tsl resK_some latK_false latK_true latP_store latP_move latP_assign latP_pick latP_nilCheck latP_makeInterface latP_binOp latP_unOp latP_convert latP_build latP_field latP_fieldAddr latP_indexAddr latP_index latP_slice latP_makeFunc latP_extract latP_call latP_load latP_alloc latP_box latP_buildSlice latP_makeSlice latP_makeMap latP_lookup latP_mapUpdate latP_range latP_next latP_entry nestNo wpK_lookup wpK_range wpK_next wpK_entry wpK_makeMap wpK_mapUpdate cell_mp
abbrev El := Int × Int
def encE (x : El) : List AV := [.int .i64 x.1, .int .i64 x.2]
def spans (l : List El) : List (List AV) := l.map encE
theorem spans_len (l : List El) : (spans l).length = l.length := by simp [spans]
theorem spans_get {l : List El} {j : Nat} {x : El} (h : l[j]? = some x) : (spans l)[j]? = some (encE x) := by simp [spans, h]
theorem idxZ {b e len j : Nat} {k : IntKind} (h : j < len) : indexAddrA CX 126 (.sl b e 0 len 2) (.int k j) = some (.ptr b e 2 j 0) := by
  have : (j : Int) < len := by omega
  simp [indexAddrA, ty126, ty38, this]
theorem spans_app (l m : List El) : spans (l ++ m) = spans l ++ spans m := by simp [spans]
theorem at_app {S : Store} {b : Nat} {x : Blk} (h : S[b]? = some x) : ∀ X, (S ++ X)[b]? = some x := fun X => by
  rw [List.getElem?_append_left (List.getElem?_eq_some_iff.1 h).1]; exact h
theorem set_app {S : Store} {b : Nat} {x : Blk} (h : S[b]? = some x) : ∀ X y, (S ++ X).set b y = S.set b y ++ X := fun X y => by
  rw [List.set_append_left _ _ (List.getElem?_eq_some_iff.1 h).1]
theorem at_set {S : Store} {b : Nat} {x : Blk} (h : S[b]? = some x) : ∀ y X, (S.set b y ++ X)[b]? = some y := fun y X => by
  have hl := (List.getElem?_eq_some_iff.1 h).1
  rw [List.getElem?_append_left (by simpa using hl), List.getElem?_set_self hl]
theorem at_set_ne {S : Store} {b c : Nat} {x : Blk} (h : S[c]? = some x) (hne : b ≠ c) : ∀ y X, (S.set b y ++ X)[c]? = some x := fun y X => by
  have hl := (List.getElem?_eq_some_iff.1 h).1
  rw [List.getElem?_append_left (by simpa using hl), List.getElem?_set_ne hne, h]
theorem max_if (a b : Int) : (if b > a then b else a) = max a b := by split <;> omega
theorem min_if (a b : Int) : (if b < a then b else a) = min a b := by split <;> omega
theorem span_ok {n : Nat} (h : n ≤ 8000000) : (n + 1) * 16 ≤ 140737488355328 ∧ n + 1 ≤ 140737488355328 := by omega
theorem spans_snoc (l : List El) (x : El) : spans l ++ [[.int .i64 x.1, .int .i64 x.2]] = spans (l ++ [x]) := by rw [spans_app]; rfl
theorem at_new {S X : Store} {b : Nat} {y : Blk} : (S.set b y ++ X)[S.length]? = X[0]? := by
  have := getElem?_len (G := S.set b y) (l := X); rwa [List.length_set] at this
theorem at_newK {S X : Store} {b k : Nat} {y : Blk} : (S.set b y ++ X)[S.length + k]? = X[k]? := by
  have := getElem?_lenAdd (G := S.set b y) (l := X) (k := k); rwa [List.length_set] at this
theorem insGo_len : ∀ (l b a : List El) (s : El), (insGo b a s l).length ≤ b.length + a.length + 1 + l.length
  | [], b, a, s => by simp [insGo]; omega
  | x :: l, b, a, s => by
    unfold insGo
    split
    · have := insGo_len l (b ++ [x]) a s; simp only [List.length_append, List.length_cons, List.length_nil] at this ⊢; omega
    · split
      · have := insGo_len l b (a ++ [x]) s; simp only [List.length_append, List.length_cons, List.length_nil] at this ⊢; omega
      · have := insGo_len l b a (min s.1 x.1, max s.2 x.2); simp only [List.length_cons] at this ⊢; omega
theorem insS_len (l : List El) (s : El) : (insS l s).length ≤ l.length + 1 := by have := insGo_len l [] [] s; simp only [List.length_nil] at this; unfold insS; omega
theorem uniGo_len : ∀ (l out : List El), (l.foldl (fun out x => if rgt x = true then insS out x else out) out).length ≤ out.length + l.length
  | [], out => by simp
  | x :: l, out => by
    rw [List.foldl_cons, List.length_cons]
    have h1 := uniGo_len l (if rgt x = true then insS out x else out)
    have h2 : (if rgt x = true then insS out x else out).length ≤ out.length + 1 := by split; exact insS_len _ _; omega
    omega
theorem uniR_len (l : List El) : (uniR l).length ≤ l.length := by have := uniGo_len l []; rw [List.length_nil, Nat.zero_add] at this; exact this

/- The reference's lists of spans: Right, insert, Union. -/
open Go.Proofs
attribute [local go_sem] ty3 ty4 ty38 eq38 ty126 List.replicate Nat.one_mul Nat.reduceMul Nat.zero_mul appK bslA fz79 fz80 fz82 fz83 fz85 lenK_esl lenK_nils lenK_sl lenK_tsl lt28 nilsK rowsFill rowsOf_esl rowsOf_nils rowsOf_sl rowsOf_tsl br67 br102 fz88 fz89 fz90
set_option maxRecDepth 20000
set_option maxHeartbeats 4000000

theorem rightR (x : El) : EvV CX 67 [.agg (encE x)] (· = .bool (rgt x)) := by
  obtain ⟨a, b⟩ := x
  refine EvV.walk rfl fn67 rfl nt67 rfl ?_
  simp only [List.length_cons, List.length_nil, List.cons_append, List.nil_append, Nat.reduceAdd, Nat.reduceSub, List.replicate]
  repeat' (first | refine go1 ?_ | refine blockK_else rfl ?_ | (refine go2 fun A B a b => ?_; simp only [go_sem, *, encE]; (repeat' first | apply a.1 | apply b.1 | refine iteI (fun h => ?_) fun h => ?_) <;> clear a b A B))
  all_goals simp only [go_sem]
  all_goals simp [rgt, *]

theorem span_ok2 {n m : Nat} (h : n + m ≤ 8000000) : (n + m) * 16 ≤ 140737488355328 ∧ n + m ≤ 140737488355328 := by omega

theorem insertR (v : AV) (l : List El) (s : El) (hv : SLs 2 (spans l) v) (hl : l.length ≤ 2000000) : EvV CX 102 [v, .agg (encE s)] (· = .osl 2 (spans (insS l s))) := by
  unfold insS
  obtain ⟨R, hR⟩ : ∃ R, insGo [] [] s l = R := ⟨_, rfl⟩
  rw [hR]
  obtain ⟨s1, s2⟩ := s
  simp only [encE]
  refine EvV.walk rfl fn102 rfl nt102 rfl ?_
  simp only [List.length_cons, List.length_nil, List.cons_append, List.nil_append, Nat.reduceAdd, Nat.reduceSub, List.replicate]
  repeat' (first | refine go1 ?_ | refine blockK_else rfl ?_ | (refine wpO_consD fun A B a b => ?_; simp only [go_sem, *, wpK_append ty126 rfl, wpK_assignN ty126 rfl, wpK_buildSlice ty126 rfl]; (repeat' first | apply a.1 | refine iteI (fun h => ?_) fun h => ?_) <;> clear a b A B))
  refine wpC_loopF [10, 11, 12, 13, 14, 15, 16, 17, 18, 19, 20, 21, 22, 23, 24, 25, 26, 27, 28, 29, 30, 31, 32, 33, 34, 35, 36, 37, 38, 39, 40, 41, 42, 43, 44, 45, 46, 47, 48, 49, 50, 51, 52, 53, 54, 55, 56, 57, 58, 59, 60, 61, 62] (fun p : List El × List El × List El × List El × El × Nat × Nat × Nat × Store => [(5, .sl 2 p.2.2.1.length 0 p.2.2.1.length 2), (6, .sl 3 p.2.2.2.1.length 0 p.2.2.2.1.length 2), (7, .int .i64 p.1.length)]) (fun p _ => p.2.2.2.2.2.2.2.2)
    (fun p => l = p.1 ++ p.2.1 ∧ p.2.2.2.2.2.2.2.2[0]? = some (.arr [[.int .i64 p.2.2.2.2.1.1, .int .i64 p.2.2.2.2.1.2]] 2 p.2.2.2.2.2.1 true) ∧ p.2.2.2.2.2.2.2.2[2]? = some (.arr (spans p.2.2.1) 2 p.2.2.2.2.2.2.1 true) ∧ p.2.2.2.2.2.2.2.2[3]? = some (.arr (spans p.2.2.2.1) 2 p.2.2.2.2.2.2.2.1 true) ∧
      p.2.2.2.2.2.1 ≤ 1 ∧ p.2.2.2.2.2.2.1 ≤ p.2.2.1.length ∧ p.2.2.2.2.2.2.2.1 ≤ p.2.2.2.1.length ∧ insGo p.2.2.1 p.2.2.2.1 p.2.2.2.2.1 p.2.1 = R ∧ p.2.2.1.length + p.2.2.2.1.length ≤ p.1.length)
    (fun p => p.2.1.length) ([], l, [], [], (s1, s2), 0, 0, 0, _) ⟨rfl, rfl, rfl, rfl, by simp, by simp, by simp, hR, by simp⟩ ?_ ⟨[], rfl⟩ ?_
  · rfl
  clear hR
  rintro ⟨pre, po, bf, af, ⟨s1, s2⟩, w0, w1, w2, S⟩ g G ⟨h1, h2, h3, h4, h5, h6, h7, h8, h9⟩
  simp only at h1 h2 h3 h4 h5 h6 h7 h8 h9
  have a2 := at_app h2
  have a3 := at_app h3
  have a4 := at_app h4
  have c2 := set_app h2
  have c3 := set_app h3
  have c4 := set_app h4
  have so1 := span_ok (n := bf.length) (by (have : pre.length ≤ l.length := by rw [h1]; simp); omega)
  have so2 := span_ok (n := af.length) (by (have : pre.length ≤ l.length := by rw [h1]; simp); omega)
  simp only [garbA_cons, garbA_nil, setL_cons, setL_nil, List.set_cons_zero, List.set_cons_succ]
  cases po with
  | nil =>
    have e : (l.length : Int) = (pre.length : Int) := by rw [h1, List.append_nil]
    have e0 : l.length = pre.length := by rw [h1, List.append_nil]
    have hh : Hold (bf ++ (s1, s2) :: af = R) := ⟨h8⟩
    have hs := spans_snoc bf (s1, s2)
    simp only at hs
    clear h1 h8
    have d3 := at_set h3
    have d4 := at_set_ne h4 (b := 2) (by decide)
    have d5 : ∀ x y X, (S.set 2 x ++ X).set 2 y = S.set 2 y ++ X := fun x y X => by
      rw [List.set_append_left _ _ (by simpa using (List.getElem?_eq_some_iff.1 h3).1), List.set_set]
    have so3 := span_ok2 (n := bf.length + 1) (m := af.length) (by omega)
    have ta : (spans af).take af.length = spans af := by rw [← spans_len af]; exact List.take_length
    have ws1 : w1 ≤ bf.length + 1 := by omega
    have hs2 : spans (bf ++ [(s1, s2)]) ++ spans af = spans (bf ++ (s1, s2) :: af) := by rw [← spans_app]; simp
    have hs3 : af = [] → bf ++ [(s1, s2)] = bf ++ (s1, s2) :: af := fun e => by rw [e]
    have hl5 : (bf ++ (s1, s2) :: af).length = bf.length + 1 + af.length := by simp; omega
    by_cases haf : af.length = 0
    · have haf' : af = [] := List.eq_nil_of_length_eq_zero haf
      subst haf'
      clear hs3 hs2 hl5 ta so2 so3 haf
      have sn : spans [] = [] := rfl
      have h7' : w2 ≤ 0 := h7
      repeat' (first | refine go1 ?_ | refine blockK_else rfl ?_ | (refine go2 fun A B a b => ?_; simp only [go_sem, *, wpK_append ty126 rfl, wpK_assignN ty126 rfl, wpK_buildSlice ty126 rfl, lenK_sls hv, e, Int.lt_irrefl, a2, a3, a4, c3, c4, d3, d4, d5, Nat.zero_le, Nat.add_zero, getElem?_len, getElem?_lenAdd, set_len, List.append_assoc, List.length_append, spans_len, hs, snap_sl, ints_len, ints_take, List.take_length, Bool.true_or, sn]; (repeat' first | apply a.1 | apply b.1 | refine iteI (fun h => ?_) fun h => ?_) <;> clear a b A B))
      simp only [go_sem, wpK_append ty126 rfl, wpK_assignN ty126 rfl, wpK_buildSlice ty126 rfl, d3, spans_len, List.length_append]
      rw [← hh.out]; simp; omega
    · clear hs3
      repeat' (first | refine go1 ?_ | refine blockK_else rfl ?_ | (refine go2 fun A B a b => ?_; simp only [go_sem, *, wpK_append ty126 rfl, wpK_assignN ty126 rfl, wpK_buildSlice ty126 rfl, lenK_sls hv, e, Int.lt_irrefl, a2, a3, a4, c3, c4, d3, d4, d5, Nat.zero_le, getElem?_len, getElem?_lenAdd, set_len, List.append_assoc, List.length_append, spans_len, hs, snap_sl, ints_len, ints_take, List.take_length, Bool.true_or, ta]; (repeat' first | apply a.1 | apply b.1 | refine iteI (fun h => ?_) fun h => ?_) <;> clear a b A B))
      simp only [go_sem, wpK_append ty126 rfl, wpK_assignN ty126 rfl, wpK_buildSlice ty126 rfl, d3, spans_len, hl5]
      rw [← hh.out]; simp; omega
  | cons x po =>
  have lta : (pre.length : Int) < (l.length : Int) := by rw [h1]; simp; omega
  have lta' : pre.length < l.length := by omega
  have i1 := idx_sls hv (X := CX) ty126 ty38 rfl (n := pre.length) (row := [.int .i64 x.1, .int .i64 x.2]) (spans_get (by rw [h1]; simp)) (k := .i64)
  have n1 := wrap_succ (n := pre.length) (by omega)
  have hh1 : Hold (l = (pre ++ [x]) ++ po) := ⟨by rw [h1]; simp⟩
  have hh9 : Hold (bf.length + af.length ≤ pre.length) := ⟨h9⟩
  rw [insGo] at h8
  clear h1 h9
  by_cases hc : x.2 < s1
  · rw [if_pos hc] at h8
    have hh2 : Hold (insGo (bf ++ [x]) af (s1, s2) po = R) := ⟨h8⟩
    have hs := spans_snoc bf x
    have b2 := at_set_ne h2 (b := 2) (by decide)
    have b3 := at_set h3
    have b4 := at_set_ne h4 (b := 2) (by decide)
    clear h8
    repeat' (first | refine go1 ?_ | refine blockK_else rfl ?_ | (refine go2 fun A B a b => ?_; simp only [go_sem, *, wpK_append ty126 rfl, wpK_assignN ty126 rfl, wpK_buildSlice ty126 rfl, lenK_sls hv, i1, a2, a3, a4, c3, c4, n1, Nat.zero_le, getElem?_len, getElem?_lenAdd, set_len, List.append_assoc, List.length_append, spans_len, hs]; (repeat' first | apply a.1 | apply b.1 | refine iteI (fun h => ?_) fun h => ?_) <;> clear a b A B))
    refine loopF_next (pre ++ [x], po, bf ++ [x], af, (s1, s2), w0, w1, w2, _) (by simp only [List.length_cons]; omega) ⟨hh1.out, b2 _ _, b3 _ _, b4 _ _, h5, ?_, h7, hh2.out, ?_⟩ ?_ ⟨[], rfl⟩
    · simp only [List.length_append, List.length_cons, List.length_nil]; omega
    · have := hh9.out; simp only [List.length_append, List.length_cons, List.length_nil]; omega
    · ((try simp only [eraseA_cons, eraseA_nil, setL_cons, setL_nil, List.set_cons_zero, List.set_cons_succ]); all_goals (first | rfl | (simp only [len_snoc, ints_len, List.length_map, ]; done) | (simp only [len_snoc, len_mid, ints_len, List.length_map, List.length_append, List.length_cons, List.length_nil, Nat.zero_add, ]; first | done | rfl)))
  rw [if_neg hc] at h8
  by_cases hd : s2 < x.1
  · rw [if_pos hd] at h8
    have hh2 : Hold (insGo bf (af ++ [x]) (s1, s2) po = R) := ⟨h8⟩
    have hs := spans_snoc af x
    have b2 := at_set_ne h2 (b := 3) (by decide)
    have b3 := at_set_ne h3 (b := 3) (by decide)
    have b4 := at_set h4
    clear h8
    repeat' (first | refine go1 ?_ | refine blockK_else rfl ?_ | (refine go2 fun A B a b => ?_; simp only [go_sem, *, wpK_append ty126 rfl, wpK_assignN ty126 rfl, wpK_buildSlice ty126 rfl, lenK_sls hv, i1, a2, a3, a4, c3, c4, n1, Nat.zero_le, getElem?_len, getElem?_lenAdd, set_len, List.append_assoc, List.length_append, spans_len, hs]; (repeat' first | apply a.1 | apply b.1 | refine iteI (fun h => ?_) fun h => ?_) <;> clear a b A B))
    refine loopF_next (pre ++ [x], po, bf, af ++ [x], (s1, s2), w0, w1, w2, _) (by simp only [List.length_cons]; omega) ⟨hh1.out, b2 _ _, b3 _ _, b4 _ _, h5, h6, ?_, hh2.out, ?_⟩ ?_ ⟨[], rfl⟩
    · simp only [List.length_append, List.length_cons, List.length_nil]; omega
    · have := hh9.out; simp only [List.length_append, List.length_cons, List.length_nil]; omega
    · ((try simp only [eraseA_cons, eraseA_nil, setL_cons, setL_nil, List.set_cons_zero, List.set_cons_succ]); all_goals (first | rfl | (simp only [len_snoc, ints_len, List.length_map, ]; done) | (simp only [len_snoc, len_mid, ints_len, List.length_map, List.length_append, List.length_cons, List.length_nil, Nat.zero_add, ]; first | done | rfl)))
  · rw [if_neg hd] at h8
    have hh2 : Hold (insGo bf af (min s1 x.1, max s2 x.2) po = R) := ⟨h8⟩
    have b2 : ∀ y, (S.set 0 y)[0]? = some y := fun y => by have := at_set h2 y []; rwa [List.append_nil] at this
    have b3 : ∀ y, (S.set 0 y)[2]? = some (.arr (spans bf) 2 w1 true) := fun y => by have := at_set_ne h3 (b := 0) (by decide) y []; rwa [List.append_nil] at this
    have b4 : ∀ y, (S.set 0 y)[3]? = some (.arr (spans af) 2 w2 true) := fun y => by have := at_set_ne h4 (b := 0) (by decide) y []; rwa [List.append_nil] at this
    clear h8
    repeat' (first | refine go1 ?_ | refine blockK_else rfl ?_ | (refine go2 fun A B a b => ?_; simp only [go_sem, *, wpK_append ty126 rfl, wpK_assignN ty126 rfl, wpK_buildSlice ty126 rfl, lenK_sls hv, i1, a2, a3, a4, c3, c4, n1, max_if, min_if, Nat.zero_le, getElem?_len, getElem?_lenAdd, set_len, List.append_assoc, List.length_append, spans_len]; (repeat' first | apply a.1 | apply b.1 | refine iteI (fun h => ?_) fun h => ?_) <;> clear a b A B))
    refine loopF_next (pre ++ [x], po, bf, af, (min s1 x.1, max s2 x.2), 1, w1, w2, _) (by simp only [List.length_cons]; omega) ⟨hh1.out, b2 _, b3 _, b4 _, Nat.le_refl _, h6, h7, hh2.out, ?_⟩ ?_ ⟨[], rfl⟩
    · have := hh9.out; simp only [List.length_append, List.length_cons, List.length_nil]; omega
    · ((try simp only [eraseA_cons, eraseA_nil, setL_cons, setL_nil, List.set_cons_zero, List.set_cons_succ]); all_goals (first | rfl | (simp only [len_snoc, ints_len, List.length_map, ]; done) | (simp only [len_snoc, len_mid, ints_len, List.length_map, List.length_append, List.length_cons, List.length_nil, Nat.zero_add, ]; first | done | rfl)))

theorem uniStep_len (out : List El) (x : El) : (if rgt x = true then insS out x else out).length ≤ out.length + 1 := by
  split
  · exact insS_len _ _
  · omega

theorem unionR (v : AV) (l : List El) (hv : SLs 2 (spans l) v) (hl : l.length ≤ 1000000) : EvV CX 79 [v] (· = .osl 2 (spans (uniR l))) := by
  unfold uniR
  obtain ⟨R, hR⟩ : ∃ R, l.foldl (fun out x => if rgt x = true then insS out x else out) [] = R := ⟨_, rfl⟩
  rw [hR]
  refine EvV.walk rfl fn79 rfl nt79 rfl ?_
  simp only [List.length_cons, List.length_nil, List.cons_append, List.nil_append, Nat.reduceAdd, Nat.reduceSub, List.replicate]
  repeat' (first | refine go1 ?_ | refine blockK_else rfl ?_ | (refine wpO_consD fun A B a b => ?_; simp only [go_sem, *, wpK_assignN ty126 rfl, wpK_buildSlice ty126 rfl]; (repeat' first | apply a.1 | refine iteI (fun h => ?_) fun h => ?_) <;> clear a b A B))
  refine wpC_loopF [6, 7, 8, 9, 10, 11, 12, 13, 14, 15, 16, 17, 18, 19, 20, 21, 22] (fun p : List El × List El × List El × Nat × Store => [(3, .sl p.2.2.2.1 p.2.2.1.length 0 p.2.2.1.length 2), (4, .int .i64 p.1.length)]) (fun p _ => p.2.2.2.2)
    (fun p => l = p.1 ++ p.2.1 ∧ p.2.2.2.2[p.2.2.2.1]? = some (.arr (spans p.2.2.1) 2 0 true) ∧ p.2.1.foldl (fun out x => if rgt x = true then insS out x else out) p.2.2.1 = R ∧ p.2.2.1.length ≤ p.1.length)
    (fun p => p.2.1.length) ([], l, [], 1, _) ⟨rfl, rfl, hR, by simp⟩ ?_ ⟨[], rfl⟩ ?_
  · rfl
  clear hR
  rintro ⟨pre, po, out, b, S⟩ g G ⟨h1, h2, h3, h4⟩
  simp only at h1 h2 h3 h4
  simp only [garbA_cons, garbA_nil, setL_cons, setL_nil, List.set_cons_zero, List.set_cons_succ]
  cases po with
  | nil =>
    have e : (l.length : Int) = (pre.length : Int) := by rw [h1, List.append_nil]
    have hh : Hold (out = R) := ⟨h3⟩
    clear h1 h3
    repeat' (first | refine go1 ?_ | refine blockK_else rfl ?_ | (refine go2 fun A B a b => ?_; simp only [go_sem, *, wpK_assignN ty126 rfl, wpK_buildSlice ty126 rfl, lenK_sls hv, e, Int.lt_irrefl, spans_len]; (repeat' first | apply a.1 | apply b.1 | refine iteI (fun h => ?_) fun h => ?_) <;> clear a b A B))
    simp only [go_sem, wpK_assignN ty126 rfl, wpK_buildSlice ty126 rfl, h2, spans_len, Nat.zero_le]
    rw [hh.out]; rfl
  | cons x po =>
    have lta : (pre.length : Int) < (l.length : Int) := by rw [h1]; simp; omega
    have i1 := idx_sls hv (X := CX) ty126 ty38 rfl (n := pre.length) (row := [.int .i64 x.1, .int .i64 x.2]) (spans_get (by rw [h1]; simp)) (k := .i64)
    have n1 := wrap_succ (n := pre.length) (by omega)
    have hh1 : Hold (l = (pre ++ [x]) ++ po) := ⟨by rw [h1]; simp⟩
    have a2 := at_app h2
    have q1 := (rightR x).rw
    have q2 := (insertR (.tsl false 2 (spans out)) out x (.rows false) (by omega)).rw
    have il := insS_len out x
    have tko : (spans out).take out.length = spans out := by rw [← spans_len out]; exact List.take_length
    rw [List.foldl_cons] at h3
    simp only [encE] at q1 q2
    clear h1
    by_cases hr : rgt x = true
    · rw [if_pos hr] at h3
      rw [hr] at q1
      have hh2 : Hold (po.foldl (fun out x => if rgt x = true then insS out x else out) (insS out x) = R) := ⟨h3⟩
      clear h3 hr
      repeat' (first | refine go1 ?_ | refine blockK_else rfl ?_ | (refine go2 fun A B a b => ?_; simp only [go_sem, *, wpK_assignN ty126 rfl, wpK_buildSlice ty126 rfl, lenK_sls hv, i1, a2, q1, q2, n1, Nat.zero_le, getElem?_len, getElem?_lenAdd, set_len, List.append_assoc, List.length_append, spans_len, snap_sl, ints_len, ints_take, List.take_length, Bool.true_or, tko]; (repeat' first | apply a.1 | apply b.1 | refine iteI (fun h => ?_) fun h => ?_) <;> clear a b A B))
      refine loopF_next (pre ++ [x], po, insS out x, S.length, _) (by simp only [List.length_cons]; omega) ⟨hh1.out, by simp only; rw [getElem?_len]; rfl, hh2.out, ?_⟩ ?_ ⟨[], rfl⟩
      · (try simp only [len_snoc]); omega
      · ((try simp only [eraseA_cons, eraseA_nil, setL_cons, setL_nil, List.set_cons_zero, List.set_cons_succ]); all_goals (first | rfl | (simp only [len_snoc, ints_len, List.length_map, ]; done) | (simp only [len_snoc, len_mid, ints_len, List.length_map, List.length_append, List.length_cons, List.length_nil, Nat.zero_add, ]; first | done | rfl)))
    · have hr' : rgt x = false := by simpa using hr
      rw [if_neg hr] at h3
      rw [hr'] at q1
      have hh2 : Hold (po.foldl (fun out x => if rgt x = true then insS out x else out) out = R) := ⟨h3⟩
      clear h3 hr hr'
      repeat' (first | refine go1 ?_ | refine blockK_else rfl ?_ | (refine go2 fun A B a b => ?_; simp only [go_sem, *, wpK_assignN ty126 rfl, wpK_buildSlice ty126 rfl, lenK_sls hv, i1, a2, q1, q2, n1, Nat.zero_le, getElem?_len, getElem?_lenAdd, set_len, List.append_assoc, List.length_append, spans_len, snap_sl, ints_len, ints_take, List.take_length, Bool.true_or, tko]; (repeat' first | apply a.1 | apply b.1 | refine iteI (fun h => ?_) fun h => ?_) <;> clear a b A B))
      refine loopF_next (pre ++ [x], po, out, b, _) (by simp only [List.length_cons]; omega) ⟨hh1.out, h2, hh2.out, ?_⟩ ?_ ⟨[], rfl⟩
      · (try simp only [len_snoc]); omega
      · ((try simp only [eraseA_cons, eraseA_nil, setL_cons, setL_nil, List.set_cons_zero, List.set_cons_succ]); all_goals (first | rfl | (simp only [len_snoc, ints_len, List.length_map, ]; done) | (simp only [len_snoc, len_mid, ints_len, List.length_map, List.length_append, List.length_cons, List.length_nil, Nat.zero_add, ]; first | done | rfl)))

/- The reference's lists of spans: Both, without, Minus, Covers, Total, Same. -/
open Go.Proofs
attribute [local go_sem] allocK fz52 fz53 fz54 fz55 fz95 lt12 lt13
set_option maxRecDepth 20000
set_option maxHeartbeats 4000000


theorem wo1_len (s x : El) : (wo1 s x).length ≤ 2 := by
  unfold wo1; split <;> split <;> simp
theorem wo_len (s : El) : ∀ l : List El, (wo l s).length ≤ 2 * l.length
  | [] => by simp [wo]
  | x :: l => by
    have h1 := wo_len s l
    have h2 := wo1_len s x
    have e : wo (x :: l) s = wo1 s x ++ wo l s := rfl
    rw [e, List.length_append, List.length_cons]; omega

theorem withoutR (v : AV) (l : List El) (s : El) (hv : SLs 2 (spans l) v) (hl : l.length ≤ 2000000) : EvV CX 80 [v, .agg (encE s)] (· = .osl 2 (spans (wo l s))) := by
  obtain ⟨R, hR⟩ : ∃ R, wo l s = R := ⟨_, rfl⟩
  rw [hR]
  obtain ⟨s1, s2⟩ := s
  simp only [encE]
  refine EvV.walk rfl fn80 rfl nt80 rfl ?_
  simp only [List.length_cons, List.length_nil, List.cons_append, List.nil_append, Nat.reduceAdd, Nat.reduceSub, List.replicate]
  repeat' (first | refine go1 ?_ | refine blockK_else rfl ?_ | (refine wpO_consD fun A B a b => ?_; simp only [go_sem, *, wpK_append ty126 rfl, wpK_assignN ty126 rfl, wpK_buildSlice ty126 rfl]; (repeat' first | apply a.1 | refine iteI (fun h => ?_) fun h => ?_) <;> clear a b A B))
  refine wpC_loopF [7, 8, 10, 11, 12, 13, 14, 15, 16, 17, 18, 19, 20, 21, 22, 23, 24, 25, 26, 27, 28, 29, 30, 31, 32, 33, 34, 35, 36, 37, 38, 39, 40, 41, 42, 43, 44, 45, 46, 47, 48, 49, 50, 51, 52, 53, 54, 55] (fun p : List El × List El × List El × Nat × Store => [(5, .sl 2 p.2.2.1.length 0 p.2.2.1.length 2), (6, .int .i64 p.1.length)]) (fun p _ => p.2.2.2.2)
    (fun p => l = p.1 ++ p.2.1 ∧ p.2.2.2.2[0]? = some (.arr [[.int .i64 s1, .int .i64 s2]] 2 0 true) ∧ p.2.2.2.2[2]? = some (.arr (spans p.2.2.1) 2 p.2.2.2.1 true) ∧ p.2.2.2.1 ≤ p.2.2.1.length ∧ p.2.2.1 ++ wo p.2.1 (s1, s2) = R ∧ p.2.2.1.length ≤ 2 * p.1.length)
    (fun p => p.2.1.length) ([], l, [], 0, _) ⟨rfl, rfl, rfl, by simp, hR, by simp⟩ ?_ ⟨[], rfl⟩ ?_
  · rfl
  clear hR
  rintro ⟨pre, po, out, w0, S⟩ g G ⟨h1, h2, h3, h4, h5, h6⟩
  simp only at h1 h2 h3 h4 h5 h6
  simp only [garbA_cons, garbA_nil, setL_cons, setL_nil, List.set_cons_zero, List.set_cons_succ]
  cases po with
  | nil =>
    have e : (l.length : Int) = (pre.length : Int) := by rw [h1, List.append_nil]
    have hh : Hold (out = R) := ⟨by rw [← h5]; simp [wo]⟩
    clear h1 h5
    repeat' (first | refine go1 ?_ | refine blockK_else rfl ?_ | (refine go2 fun A B a b => ?_; simp only [go_sem, *, wpK_append ty126 rfl, wpK_assignN ty126 rfl, wpK_buildSlice ty126 rfl, lenK_sls hv, e, Int.lt_irrefl, spans_len]; (repeat' first | apply a.1 | apply b.1 | refine iteI (fun h => ?_) fun h => ?_) <;> clear a b A B))
    simp only [go_sem, wpK_append ty126 rfl, wpK_assignN ty126 rfl, wpK_buildSlice ty126 rfl, h3, spans_len]
    have h4' : w0 ≤ R.length := by rw [← hh.out]; exact h4
    rw [hh.out]
    first | rfl | (simp; done) | (simp; omega) | (simp [*]; done)
  | cons x po =>
    have lta : (pre.length : Int) < (l.length : Int) := by rw [h1]; simp; omega
    have i1 := idx_sls hv (X := CX) ty126 ty38 rfl (n := pre.length) (row := [.int .i64 x.1, .int .i64 x.2]) (spans_get (by rw [h1]; simp)) (k := .i64)
    have n1 := wrap_succ (n := pre.length) (by omega)
    have hh1 : Hold (l = (pre ++ [x]) ++ po) := ⟨by rw [h1]; simp⟩
    have hh2 : Hold (out.length ≤ 2 * pre.length) := ⟨h6⟩
    have a2 := at_app h2
    have a3 := at_app h3
    have c3 := set_app h3
    have b2 := at_set_ne h2 (b := 2) (by decide)
    have b3 := at_set h3
    have d5 : ∀ x y X, (S.set 2 x ++ X).set 2 y = S.set 2 y ++ X := fun x y X => by
      rw [List.set_append_left _ _ (by simpa using (List.getElem?_eq_some_iff.1 h3).1), List.set_set]
    have so := span_ok (n := out.length) (by omega)
    have so2 := span_ok2 (n := out.length + 1) (m := 1) (by omega)
    have q1 := (rightR (x.1, min x.2 s1)).rw
    have q2 := (rightR (max x.1 s2, x.2)).rw
    have e5 : wo (x :: po) (s1, s2) = wo1 (s1, s2) x ++ wo po (s1, s2) := rfl
    rw [e5, wo1] at h5
    simp only [encE] at q1 q2
    have hs1 := spans_snoc out (x.1, min x.2 s1)
    have hs2 := spans_snoc out (max x.1 s2, x.2)
    have hs3 := spans_snoc (out ++ [(x.1, min x.2 s1)]) (max x.1 s2, x.2)
    have ws : w0 ≤ out.length + 1 := by omega
    clear h1 h6 e5
    by_cases r1 : rgt (x.1, min x.2 s1) = true <;> by_cases r2 : rgt (max x.1 s2, x.2) = true
    · rw [if_pos r1, if_pos r2] at h5
      rw [r1] at q1
      rw [r2] at q2
      have hh3 : Hold (out ++ [(x.1, min x.2 s1), (max x.1 s2, x.2)] ++ wo po (s1, s2) = R) := ⟨by rw [← h5]; simp only [List.append_assoc, List.nil_append, List.cons_append]⟩
      clear h5 r1 r2
      repeat' (first | refine go1 ?_ | refine blockK_else rfl ?_ | (refine go2 fun A B a b => ?_; simp only [go_sem, *, wpK_append ty126 rfl, wpK_assignN ty126 rfl, wpK_buildSlice ty126 rfl, lenK_sls hv, i1, n1, a2, a3, c3, b2, b3, d5, q1, q2, hs1, hs2, hs3, max_if, min_if, set_lenAdd, Nat.zero_le, at_new, at_newK, getElem?_len, getElem?_lenAdd, set_len, List.append_assoc, List.length_append, spans_len, snap_sl, ints_len, ints_take, List.take_length, Bool.true_or]; (repeat' first | apply a.1 | apply b.1 | refine iteI (fun h => ?_) fun h => ?_) <;> clear a b A B))
      refine loopF_next (pre ++ [x], po, out ++ [(x.1, min x.2 s1), (max x.1 s2, x.2)], w0, _) (by simp only [List.length_cons]; omega) ⟨hh1.out, b2 _ _, b3 _ _, ?_, hh3.out, ?_⟩ ?_ ⟨[], rfl⟩
      · simp only [List.length_append, List.length_cons, List.length_nil]; omega
      · have := hh2.out; simp only [List.length_append, List.length_cons, List.length_nil]; omega
      · ((try simp only [eraseA_cons, eraseA_nil, setL_cons, setL_nil, List.set_cons_zero, List.set_cons_succ]); all_goals (first | rfl | (simp only [len_snoc, ints_len, List.length_map, ]; done) | (simp only [len_snoc, len_mid, ints_len, List.length_map, List.length_append, List.length_cons, List.length_nil, Nat.zero_add, ]; first | done | rfl)))
    · rw [if_pos r1, if_neg r2] at h5
      rw [r1] at q1
      have r2' : rgt (max x.1 s2, x.2) = false := by simpa using r2
      rw [r2'] at q2
      clear r2'
      have hh3 : Hold (out ++ [(x.1, min x.2 s1)] ++ wo po (s1, s2) = R) := ⟨by rw [← h5]; simp only [List.append_assoc, List.nil_append, List.cons_append]⟩
      clear h5 r1 r2
      repeat' (first | refine go1 ?_ | refine blockK_else rfl ?_ | (refine go2 fun A B a b => ?_; simp only [go_sem, *, wpK_append ty126 rfl, wpK_assignN ty126 rfl, wpK_buildSlice ty126 rfl, lenK_sls hv, i1, n1, a2, a3, c3, b2, b3, d5, q1, q2, hs1, hs2, hs3, max_if, min_if, set_lenAdd, Nat.zero_le, at_new, at_newK, getElem?_len, getElem?_lenAdd, set_len, List.append_assoc, List.length_append, spans_len, snap_sl, ints_len, ints_take, List.take_length, Bool.true_or]; (repeat' first | apply a.1 | apply b.1 | refine iteI (fun h => ?_) fun h => ?_) <;> clear a b A B))
      refine loopF_next (pre ++ [x], po, out ++ [(x.1, min x.2 s1)], w0, _) (by simp only [List.length_cons]; omega) ⟨hh1.out, b2 _ _, b3 _ _, ?_, hh3.out, ?_⟩ ?_ ⟨[], rfl⟩
      · simp only [List.length_append, List.length_cons, List.length_nil]; omega
      · have := hh2.out; simp only [List.length_append, List.length_cons, List.length_nil]; omega
      · ((try simp only [eraseA_cons, eraseA_nil, setL_cons, setL_nil, List.set_cons_zero, List.set_cons_succ]); all_goals (first | rfl | (simp only [len_snoc, ints_len, List.length_map, ]; done) | (simp only [len_snoc, len_mid, ints_len, List.length_map, List.length_append, List.length_cons, List.length_nil, Nat.zero_add, ]; first | done | rfl)))
    · rw [if_neg r1, if_pos r2] at h5
      have r1' : rgt (x.1, min x.2 s1) = false := by simpa using r1
      rw [r1'] at q1
      clear r1'
      rw [r2] at q2
      have hh3 : Hold (out ++ [(max x.1 s2, x.2)] ++ wo po (s1, s2) = R) := ⟨by rw [← h5]; simp only [List.append_assoc, List.nil_append, List.cons_append]⟩
      clear h5 r1 r2
      repeat' (first | refine go1 ?_ | refine blockK_else rfl ?_ | (refine go2 fun A B a b => ?_; simp only [go_sem, *, wpK_append ty126 rfl, wpK_assignN ty126 rfl, wpK_buildSlice ty126 rfl, lenK_sls hv, i1, n1, a2, a3, c3, b2, b3, d5, q1, q2, hs1, hs2, hs3, max_if, min_if, set_lenAdd, Nat.zero_le, at_new, at_newK, getElem?_len, getElem?_lenAdd, set_len, List.append_assoc, List.length_append, spans_len, snap_sl, ints_len, ints_take, List.take_length, Bool.true_or]; (repeat' first | apply a.1 | apply b.1 | refine iteI (fun h => ?_) fun h => ?_) <;> clear a b A B))
      refine loopF_next (pre ++ [x], po, out ++ [(max x.1 s2, x.2)], w0, _) (by simp only [List.length_cons]; omega) ⟨hh1.out, b2 _ _, b3 _ _, ?_, hh3.out, ?_⟩ ?_ ⟨[], rfl⟩
      · simp only [List.length_append, List.length_cons, List.length_nil]; omega
      · have := hh2.out; simp only [List.length_append, List.length_cons, List.length_nil]; omega
      · ((try simp only [eraseA_cons, eraseA_nil, setL_cons, setL_nil, List.set_cons_zero, List.set_cons_succ]); all_goals (first | rfl | (simp only [len_snoc, ints_len, List.length_map, ]; done) | (simp only [len_snoc, len_mid, ints_len, List.length_map, List.length_append, List.length_cons, List.length_nil, Nat.zero_add, ]; first | done | rfl)))
    · rw [if_neg r1, if_neg r2] at h5
      have r1' : rgt (x.1, min x.2 s1) = false := by simpa using r1
      rw [r1'] at q1
      clear r1'
      have r2' : rgt (max x.1 s2, x.2) = false := by simpa using r2
      rw [r2'] at q2
      clear r2'
      have hh3 : Hold (out ++ wo po (s1, s2) = R) := ⟨by rw [← h5]; simp only [List.append_assoc, List.nil_append, List.cons_append]⟩
      clear h5 r1 r2
      repeat' (first | refine go1 ?_ | refine blockK_else rfl ?_ | (refine go2 fun A B a b => ?_; simp only [go_sem, *, wpK_append ty126 rfl, wpK_assignN ty126 rfl, wpK_buildSlice ty126 rfl, lenK_sls hv, i1, n1, a2, a3, c3, b2, b3, d5, q1, q2, hs1, hs2, hs3, max_if, min_if, set_lenAdd, Nat.zero_le, at_new, at_newK, getElem?_len, getElem?_lenAdd, set_len, List.append_assoc, List.length_append, spans_len, snap_sl, ints_len, ints_take, List.take_length, Bool.true_or]; (repeat' first | apply a.1 | apply b.1 | refine iteI (fun h => ?_) fun h => ?_) <;> clear a b A B))
      refine loopF_next (pre ++ [x], po, out, w0, _) (by simp only [List.length_cons]; omega) ⟨hh1.out, a2 _, a3 _, h4, hh3.out, ?_⟩ ?_ ⟨[], rfl⟩
      · have := hh2.out; simp only [List.length_append, List.length_cons, List.length_nil]; omega
      · ((try simp only [eraseA_cons, eraseA_nil, setL_cons, setL_nil, List.set_cons_zero, List.set_cons_succ]); all_goals (first | rfl | (simp only [len_snoc, ints_len, List.length_map, ]; done) | (simp only [len_snoc, len_mid, ints_len, List.length_map, List.length_append, List.length_cons, List.length_nil, Nat.zero_add, ]; first | done | rfl)))

/- The reference's lists of spans: Both, Minus, Covers, Total. -/
open Go.Proofs
attribute [local go_sem] br79 br80 fz56 fz57 fz58 br68 fz59
set_option maxRecDepth 20000
set_option maxHeartbeats 4000000

/-- The spans that are left lie in those of the first list: a bound that does not double. -/
theorem norm_card {l : List El} (h : Norm l) : l.length ≤ 86400000 := by
  have h1 := tot_le h
  have : (l.length : Int) ≤ tot l := by
    clear h1
    induction l with
    | nil => simp [tot]
    | cons x l ih =>
      obtain ⟨r, _, n⟩ := norm_cons.mp h
      have e := rgt_iff.mp r
      have := ih n
      have e2 : tot (x :: l) = (x.2 - x.1) + tot l := by simp [tot]
      rw [e2, List.length_cons]; omega
  omega
theorem wo_one (s : El) (hs : s.1 < s.2) : ∀ {l : List El}, Norm l → (wo l s).length ≤ l.length + 1
  | [], _ => by simp [wo]
  | x :: l, h => by
    obtain ⟨rx, sx, nl⟩ := norm_cons.mp h
    have e : wo (x :: l) s = wo1 s x ++ wo l s := rfl
    rw [e, List.length_append, List.length_cons]
    by_cases hx : s.2 < x.2
    · -- the rest lies behind s
      have hl : ∀ y ∈ l, wo1 s y = [y] := fun y hy => by
        have h1 := sx y hy
        have ry := rgt_iff.mp (nl.rg y hy)
        have a1 : ¬ rgt (y.1, min y.2 s.1) = true := fun k => by have := rgt_iff.mp k; simp only at this; omega
        have a2 : max y.1 s.2 = y.1 := by omega
        unfold wo1
        rw [if_neg a1, a2, if_pos (nl.rg y hy)]; rfl
      have : wo l s = l := by
        unfold wo
        clear h e sx nl
        induction l with
        | nil => rfl
        | cons y l ih => rw [List.flatMap_cons, hl y (by simp), ih fun z hz => hl z (by simp [hz])]; rfl
      rw [this]
      have := wo1_len s x; omega
    · have h1 : (wo1 s x).length ≤ 1 := by
        have a2 : ¬ rgt (max x.1 s.2, x.2) = true := fun k => by have := rgt_iff.mp k; simp only at this; omega
        unfold wo1
        rw [if_neg a2]; split <;> simp
      have := wo_one s hs nl
      omega

theorem minusRE (v w : AV) (a b : List El) (hv : SLs 2 (spans a) v) (hw : SLs 2 (spans b) w) (ha : a.length ≤ 500000) (hb : b.length ≤ 500000) : EvV CX 68 [v, w] (· = .osl 2 (spans (minusR a b))) := by
  have q0 := (unionR v a hv (by omega)).rw
  have s1 := hv.snap
  have hul := uniR_len a
  have hun := (uniR_spec a).1
  unfold minusR
  obtain ⟨R, hR⟩ : ∃ R, b.foldl (fun out s => if rgt s = true then wo out s else out) (uniR a) = R := ⟨_, rfl⟩
  rw [hR]
  obtain ⟨u, hu⟩ : ∃ u, uniR a = u := ⟨_, rfl⟩
  rw [hu] at q0 hul hun hR
  have hun' : Hold (Norm u) := ⟨hun⟩
  clear hun
  refine EvV.walk rfl fn68 rfl nt68 rfl ?_
  simp only [List.length_cons, List.length_nil, List.cons_append, List.nil_append, Nat.reduceAdd, Nat.reduceSub, List.replicate]
  repeat' (first | refine go1 ?_ | refine blockK_else rfl ?_ | (refine wpO_consD fun A B a b => ?_; simp only [go_sem, *, wpK_assignN ty126 rfl, s1, q0, spans_len]; (repeat' first | apply a.1 | refine iteI (fun h => ?_) fun h => ?_) <;> clear a b A B))
  refine wpC_loopF [9, 10, 11, 12, 13, 14, 15, 16, 17, 18, 19, 20, 21, 22, 23, 24, 25] (fun p : List El × List El × List El × Nat × Store => [(5, .sl p.2.2.2.1 p.2.2.1.length 0 p.2.2.1.length 2), (6, .int .i64 p.1.length)]) (fun p _ => p.2.2.2.2)
    (fun p => b = p.1 ++ p.2.1 ∧ p.2.2.2.2[p.2.2.2.1]? = some (.arr (spans p.2.2.1) 2 0 true) ∧ p.2.1.foldl (fun out s => if rgt s = true then wo out s else out) p.2.2.1 = R ∧ p.2.2.1.length ≤ p.1.length + u.length ∧ Norm p.2.2.1)
    (fun p => p.2.1.length) ([], b, u, 1, _) ⟨rfl, rfl, hR, by simp, hun'.out⟩ ?_ ⟨[], rfl⟩ ?_
  · rfl
  clear hR q0
  rintro ⟨pre, po, out, bo, S⟩ g G ⟨h1, h2, h3, h4, h5⟩
  simp only at h1 h2 h3 h4 h5
  simp only [garbA_cons, garbA_nil, setL_cons, setL_nil, List.set_cons_zero, List.set_cons_succ]
  cases po with
  | nil =>
    have e : (b.length : Int) = (pre.length : Int) := by rw [h1, List.append_nil]
    have hh : Hold (out = R) := ⟨h3⟩
    clear h1 h3
    repeat' (first | refine go1 ?_ | refine blockK_else rfl ?_ | (refine go2 fun A B a b => ?_; simp only [go_sem, *, wpK_assignN ty126 rfl, lenK_sls hw, e, Int.lt_irrefl, spans_len]; (repeat' first | apply a.1 | apply b.1 | refine iteI (fun h => ?_) fun h => ?_) <;> clear a b A B))
    simp only [go_sem, wpK_assignN ty126 rfl, h2, spans_len, Nat.zero_le]
    rw [hh.out]; rfl
  | cons x po =>
    have lta : (pre.length : Int) < (b.length : Int) := by rw [h1]; simp; omega
    have i1 := idx_sls hw (X := CX) ty126 ty38 rfl (n := pre.length) (row := [.int .i64 x.1, .int .i64 x.2]) (spans_get (by rw [h1]; simp)) (k := .i64)
    have n1 := wrap_succ (n := pre.length) (by omega)
    have hh1 : Hold (b = (pre ++ [x]) ++ po) := ⟨by rw [h1]; simp⟩
    have a2 := at_app h2
    have q1 := (rightR x).rw
    have q2 := (withoutR (.tsl false 2 (spans out)) out x (.rows false) (by omega)).rw
    have tko : (spans out).take out.length = spans out := by rw [← spans_len out]; exact List.take_length
    rw [List.foldl_cons] at h3
    simp only [encE] at q1 q2
    have hh5 : Hold (Norm out) := ⟨h5⟩
    clear h1 h5
    by_cases hr : rgt x = true
    · rw [if_pos hr] at h3
      rw [hr] at q1
      have hh2 : Hold (po.foldl (fun out s => if rgt s = true then wo out s else out) (wo out x) = R) := ⟨h3⟩
      have hh6 : Hold (Norm (wo out x) ∧ (wo out x).length ≤ out.length + 1) := ⟨(wo_spec hr hh5.out).1, wo_one x (rgt_iff.mp hr).2.1 hh5.out⟩
      clear h3 hr
      repeat' (first | refine go1 ?_ | refine blockK_else rfl ?_ | (refine go2 fun A B a b => ?_; simp only [go_sem, *, wpK_assignN ty126 rfl, lenK_sls hw, i1, a2, q1, q2, n1, set_lenAdd, Nat.zero_le, at_new, at_newK, getElem?_len, getElem?_lenAdd, set_len, List.append_assoc, List.length_append, spans_len, snap_sl, rowsOf_sl, ints_len, ints_take, List.take_length, Bool.true_or, tko]; (repeat' first | apply a.1 | apply b.1 | refine iteI (fun h => ?_) fun h => ?_) <;> clear a b A B))
      refine loopF_next (pre ++ [x], po, wo out x, S.length, _) (by simp only [List.length_cons]; omega) ⟨hh1.out, by simp only; rw [getElem?_len]; rfl, hh2.out, ?_, hh6.out.1⟩ ?_ ⟨[], rfl⟩
      · have := hh6.out.2
        simp only [len_snoc]; omega
      · ((try simp only [eraseA_cons, eraseA_nil, setL_cons, setL_nil, List.set_cons_zero, List.set_cons_succ]); all_goals (first | rfl | (simp only [len_snoc, ints_len, List.length_map, ]; done) | (simp only [len_snoc, len_mid, ints_len, List.length_map, List.length_append, List.length_cons, List.length_nil, Nat.zero_add, ]; first | done | rfl)))
    · have hr' : rgt x = false := by simpa using hr
      rw [if_neg hr] at h3
      rw [hr'] at q1
      have hh2 : Hold (po.foldl (fun out s => if rgt s = true then wo out s else out) out = R) := ⟨h3⟩
      clear h3 hr hr'
      repeat' (first | refine go1 ?_ | refine blockK_else rfl ?_ | (refine go2 fun A B a b => ?_; simp only [go_sem, *, wpK_assignN ty126 rfl, lenK_sls hw, i1, a2, q1, q2, n1, set_lenAdd, Nat.zero_le, at_new, at_newK, getElem?_len, getElem?_lenAdd, set_len, List.append_assoc, List.length_append, spans_len, snap_sl, rowsOf_sl, ints_len, ints_take, List.take_length, Bool.true_or, tko]; (repeat' first | apply a.1 | apply b.1 | refine iteI (fun h => ?_) fun h => ?_) <;> clear a b A B))
      refine loopF_next (pre ++ [x], po, out, bo, _) (by simp only [List.length_cons]; omega) ⟨hh1.out, h2, hh2.out, ?_, hh5.out⟩ ?_ ⟨[], rfl⟩
      · simp only [len_snoc]; omega
      · ((try simp only [eraseA_cons, eraseA_nil, setL_cons, setL_nil, List.set_cons_zero, List.set_cons_succ]); all_goals (first | rfl | (simp only [len_snoc, ints_len, List.length_map, ]; done) | (simp only [len_snoc, len_mid, ints_len, List.length_map, List.length_append, List.length_cons, List.length_nil, Nat.zero_add, ]; first | done | rfl)))

theorem covRE (v : AV) (l : List El) (s : El) (hv : SLs 2 (spans l) v) (hl : l.length ≤ 500000) : EvV CX 48 [v, .agg (encE s)] (· = .bool (covR l s)) := by
  have q1 := (minusRE (.tsl false 2 (spans [s])) v [s] l (.rows false) hv (by simp) hl).rw
  have q2 := (rightR s).rw
  have s1 := hv.snap
  unfold covR
  obtain ⟨m, hm⟩ : ∃ m, minusR [s] l = m := ⟨_, rfl⟩
  rw [hm] at q1 ⊢
  obtain ⟨a, b⟩ := s
  have e0 : spans [(a, b)] = [[.int .i64 a, .int .i64 b]] := rfl
  rw [e0] at q1
  simp only [encE] at q2 ⊢
  by_cases hr : rgt (a, b) = true
  · rw [hr] at q2 ⊢
    clear hm hr
    refine EvV.walk rfl fn48 rfl nt48 rfl ?_
    simp only [List.length_cons, List.length_nil, List.cons_append, List.nil_append, Nat.reduceAdd, Nat.reduceSub, List.replicate]
    repeat' (first | refine go1 ?_ | refine blockK_else rfl ?_ | (refine go2 fun A B a b => ?_; simp only [go_sem, *, wpK_buildSlice ty126 rfl, s1, q1, q2, lenK_sl, set_lenAdd, Nat.zero_le, at_new, at_newK, getElem?_len, getElem?_lenAdd, set_len, List.append_assoc, List.length_append, spans_len, snap_sl, rowsOf_sl, ints_len, ints_take, List.take_length, Bool.true_or]; (repeat' first | apply a.1 | apply b.1 | refine iteI (fun h => ?_) fun h => ?_) <;> clear a b A B))
    simp only [go_sem, wpK_buildSlice ty126 rfl]
    simp [Bool.beq_eq_decide_eq]
  · have hr' : rgt (a, b) = false := by simpa using hr
    rw [hr'] at q2 ⊢
    clear hr hr' hm
    refine EvV.walk rfl fn48 rfl nt48 rfl ?_
    simp only [List.length_cons, List.length_nil, List.cons_append, List.nil_append, Nat.reduceAdd, Nat.reduceSub, List.replicate]
    repeat' (first | refine go1 ?_ | refine blockK_else rfl ?_ | (refine go2 fun A B a b => ?_; simp only [go_sem, *, wpK_buildSlice ty126 rfl, s1, q1, q2, lenK_sl, set_lenAdd, Nat.zero_le, at_new, at_newK, getElem?_len, getElem?_lenAdd, set_len, List.append_assoc, List.length_append, spans_len, snap_sl, rowsOf_sl, ints_len, ints_take, List.take_length, Bool.true_or]; (repeat' first | apply a.1 | apply b.1 | refine iteI (fun h => ?_) fun h => ?_) <;> clear a b A B))
    simp only [go_sem, wpK_buildSlice ty126 rfl]

theorem bothIn_len (x : El) : ∀ (b out : List El), (bothIn x b out).length ≤ out.length + b.length
  | [], out => by simp [bothIn]
  | y :: b, out => by
    have e : bothIn x (y :: b) out = bothIn x b (if rgt x = true ∧ rgt y = true ∧ rgt (cap x y) = true then insS out (cap x y) else out) := rfl
    rw [e, List.length_cons]
    have h1 := bothIn_len x b (if rgt x = true ∧ rgt y = true ∧ rgt (cap x y) = true then insS out (cap x y) else out)
    have h2 : (if rgt x = true ∧ rgt y = true ∧ rgt (cap x y) = true then insS out (cap x y) else out).length ≤ out.length + 1 := by
      split
      · exact insS_len _ _
      · omega
    omega

end Go.Eng.Fo

/- Rebuilds: what the reference's check of notes tells. -/
namespace Go.Eng
open Go.Proofs
set_option linter.unusedSimpArgs false
set_option linter.unusedVariables false
attribute [local irreducible] wpC wpO wp1 EvV EvR wpL
attribute [local go_sem] ty3 ty4 ty9 ty24 ty25 ty26 ty28 ty38 ty40 ty53 eq38 eq40 allocK ty22 ty34 br66 fz68 br11 br46 br67 fz73 fz74 fz77 br43 br44 fz85 fz87 reduceIte Nat.reduceAdd Nat.reduceEqDiff Nat.reduceLT Nat.reduceLeDiff beq_iff_eq beq_eq_false_iff_ne Int.natCast_inj Bool.not_eq_false' op1_go wpK_box wpK_alloc wpK_load wpK_store wpK_binOp wpK_unOp wpK_fieldAddr wpK_field wpK_build wpK_indexAddr wpK_slice wpK_len wpK_extract wpK_nilCheck wpK_pick wpK_makeFunc wpK_call wpK_callT wpK_max wpK_min wpK_assignT wpK_moveT wpK_assignB wpK_moveB wpK_assignI wpK_moveI wpK_assignA wpK_moveA callK_fn snapL_nil snapL_cons snap_int snap_bool snap_str snap_tsl snap_agg snap_fn snap_flat adopt_int adopt_bool adopt_str adopt_agg adopt_osl adopt_tsl adopt_tup op1_guard grdK_bool grdK_undef condK_bool someK_some pairK_some nilK_ptr nilK_tptr boxK storeK evalA_tmp evalA_int evalA_bool evalA_agg evalA_fn evalA_nil ofC_int ofC_bool getA_zero getA_succ cells_int cells_agg cells_bool cells_sl cells_tsl cell_int cell_bool cell_str cell_sl cell_esl cell_tsl cell_ptr cell_tptr cell_fn cell_nils cell_nilf List.all_cons List.all_nil Bool.and_true Bool.and_self Bool.true_and putA_some putA_none List.set_cons_zero List.set_cons_succ List.length_cons List.length_nil List.nil_append List.cons_append stabL AV.stab fieldAddrA fieldA List.getElem?_cons_zero List.getElem?_cons_succ Nat.zero_add loadA rowOf Nat.le_refl and_self true_and and_true partA binA unA intBin eqBin eqCells eqCell Option.bind_some decide_true decide_false decide_eq_true_eq ite_not Bool.not_eq_true' decide_eq_false_iff_not Bool.false_eq_true Option.map_some Option.map_none Bool.not_true Bool.not_false buildA fillA patch List.take List.drop List.map_cons List.map_nil extK List.getD_cons_zero List.getD_cons_succ minmaxA minmaxGo adoptZ_false adoptZ_true freeze_int freeze_bool freeze_str freeze_flat freeze_agg freeze_osl freeze_tsl freeze_tup frz1_bool frz1_int frz1_str frz1_agg frz1_osl frz1_tsl bne Bool.false_and Bool.and_false ne_eq not_true_eq_false not_false_eq_true List.append_nil resultsR resultsL resultA expK_int expK_bool expK_str expK_agg expK_own expK_tsl resK_some latK_false latK_true latP_store latP_move latP_assign latP_pick latP_nilCheck latP_makeInterface latP_binOp latP_unOp latP_convert latP_build latP_field latP_fieldAddr latP_indexAddr latP_index latP_slice latP_makeFunc latP_extract latP_call latP_load latP_alloc latP_box latP_buildSlice latP_makeSlice latP_makeMap latP_lookup latP_mapUpdate latP_range latP_next latP_entry nestNo wpK_lookup wpK_range wpK_next wpK_entry wpK_makeMap wpK_mapUpdate cell_mp
set_option maxHeartbeats 4000000

theorem natI_len (l : List Nat) : (natI l).length = l.length := by simp [natI]

theorem textR (s : ByteArray) (hs : s.size ≤ 9223372036854775807) : ∃ e, (e = 0 → TX s) ∧ EvV CX 43 [.str s] (· = .int .i64 e) := by
  suffices h : EvV CX 43 [.str s] (fun r => ∃ e, r = .int .i64 e ∧ (e = 0 → TX s)) by
    obtain ⟨r, ⟨b, rfl, hb⟩, h⟩ := h.ex
    exact ⟨b, hb, h⟩
  by_cases k : (200 : Int) < (s.size : Int)
  · refine EvV.walk rfl fn43 rfl nt43 rfl ?_
    simp only [List.length_cons, List.length_nil, List.cons_append, List.nil_append, Nat.reduceAdd, Nat.reduceSub, List.replicate]
    repeat' (first | refine go1 ?_ | refine blockK_else rfl ?_ | (refine go2 fun A B a b => ?_; simp only [go_sem, *, lenK_str, k]; (repeat' first | apply a.1 | apply b.1 | refine iteI (fun h => ?_) fun h => ?_) <;> clear a b A B))
    simp only [go_sem]
    exact ⟨_, rfl, fun h => by cases h⟩
  have hk : Hold (s.size ≤ 200) := ⟨by omega⟩
  have q := (ptsE s (by omega)).rw
  cases hp : pts s.data.toList with
  | none =>
    rw [hp, ptsV] at q
    refine EvV.walk rfl fn43 rfl nt43 rfl ?_
    simp only [List.length_cons, List.length_nil, List.cons_append, List.nil_append, Nat.reduceAdd, Nat.reduceSub, List.replicate]
    repeat' (first | refine go1 ?_ | refine blockK_else rfl ?_ | (refine go2 fun A B a b => ?_; simp only [go_sem, *, lenK_str, k, q, adoptL, adopt1]; (repeat' first | apply a.1 | apply b.1 | refine iteI (fun h => ?_) fun h => ?_) <;> clear a b A B))
    simp only [go_sem]
    exact ⟨_, rfl, fun h => by cases h⟩
  | some l =>
    rw [hp, ptsV] at q
    have hpH : Hold (pts s.data.toList = some l) := ⟨hp⟩
    clear hp
    refine EvV.walk rfl fn43 rfl nt43 rfl ?_
    simp only [List.length_cons, List.length_nil, List.cons_append, List.nil_append, Nat.reduceAdd, Nat.reduceSub, List.replicate]
    repeat' (first | refine go1 ?_ | refine blockK_else rfl ?_ | (refine go2 fun A B a b => ?_; simp only [go_sem, *, lenK_str, k, q, adoptL, adopt1, ints_len, natI_len]; (repeat' first | apply a.1 | apply b.1 | refine iteI (fun h => ?_) fun h => ?_) <;> clear a b A B))
    refine wpC_each [2, 16, 17, 18, 19, 20, 21, 22, 23, 24, 25, 26, 27, 28, 29, 30, 31, 32, 33] 5 l (fun pre _ => ∀ p ∈ pre, okP p) ?_ ?_ ?_ ?_
    · intro p h; cases h
    · ((try simp only [eraseA_cons, eraseA_nil, setL_cons, setL_nil, List.set_cons_zero, List.set_cons_succ]); all_goals (first | rfl | (simp only [len_snoc, ints_len, List.length_map, ]; done) | (simp only [len_snoc, len_mid, ints_len, List.length_map, List.length_append, List.length_cons, List.length_nil, Nat.zero_add, ]; first | done | rfl)))
    · intro g G hP
      have hPH : Hold (TX s) := ⟨hk.out, by rw [hpH.out]; rfl, ptsU_ok _ _ l (Nat.le_refl _) hpH.out hP⟩
      clear hP
      simp only [garbA_cons, garbA_nil, setL_cons, setL_nil, List.set_cons_zero, List.set_cons_succ]
      repeat' (first | refine go1 ?_ | refine blockK_else rfl ?_ | (refine go2 fun A B a b => ?_; simp only [go_sem, *, lenK_sl, ints_len, natI_len, Int.lt_irrefl]; (repeat' first | apply a.1 | apply b.1 | refine iteI (fun h => ?_) fun h => ?_) <;> clear a b A B))
      simp only [go_sem]
      exact ⟨_, rfl, fun _ => hPH.out⟩
    · intro g G pre x post h1 hP
      have hPH : Hold (∀ p ∈ pre, okP p) := ⟨hP⟩
      have hh1 : Hold (l = pre ++ x :: post) := ⟨h1⟩
      have hpl : pre.length < l.length := by rw [h1]; simp
      have hl2 : l.length ≤ 9223372036854775806 := by
        have := hk.out
        have := ptsU_len _ _ _ (Nat.le_refl _) hpH.out
        have : s.data.toList.length = s.size := by simp
        omega
      have lt1 : (pre.length : Int) < (l.length : Int) := by omega
      have w1 := wrap_succ (n := pre.length) (by omega)
      have hget : (ints (natI l))[pre.length]? = some [.int .i64 (x : Int)] := by rw [h1]; simp [ints, natI]
      clear h1 hP hl2
      by_cases k1 : (x : Int) < 32
      · simp only [garbA_cons, garbA_nil, setL_cons, setL_nil, List.set_cons_zero, List.set_cons_succ]
        repeat' (first | refine go1 ?_ | refine blockK_else rfl ?_ | (refine go2 fun A B a b => ?_; simp only [go_sem, *, lenK_sl, ints_len, natI_len, lt1, w1, indexAddrA, Int.natCast_nonneg, Int.toNat_natCast, hpl, hget, k1, set_lenAdd, Nat.zero_le, getElem?_len, getElem?_lenAdd, set_len, List.append_assoc, List.length_append, List.length_map, lenK_str, snap_sl, rowsOf_sl, ints_take, List.take_length, Bool.true_or]; (repeat' first | apply a.1 | apply b.1 | refine iteI (fun h => ?_) fun h => ?_) <;> clear a b A B))
        simp only [go_sem]
        exact ⟨_, rfl, fun h => by cases h⟩
      · cases k2 : ((x : Int) == 127) with
        | true =>
          simp only [garbA_cons, garbA_nil, setL_cons, setL_nil, List.set_cons_zero, List.set_cons_succ]
          repeat' (first | refine go1 ?_ | refine blockK_else rfl ?_ | (refine go2 fun A B a b => ?_; simp only [go_sem, *, lenK_sl, ints_len, natI_len, lt1, w1, indexAddrA, Int.natCast_nonneg, Int.toNat_natCast, hpl, hget, k1, k2, set_lenAdd, Nat.zero_le, getElem?_len, getElem?_lenAdd, set_len, List.append_assoc, List.length_append, List.length_map, lenK_str, snap_sl, rowsOf_sl, ints_take, List.take_length, Bool.true_or]; (repeat' first | apply a.1 | apply b.1 | refine iteI (fun h => ?_) fun h => ?_) <;> clear a b A B))
          simp only [go_sem]
          exact ⟨_, rfl, fun h => by cases h⟩
        | false =>
          have hok : Hold (okP x) := ⟨by unfold okP; simp at k2; omega⟩
          simp only [garbA_cons, garbA_nil, setL_cons, setL_nil, List.set_cons_zero, List.set_cons_succ]
          repeat' (first | refine go1 ?_ | refine blockK_else rfl ?_ | (refine go2 fun A B a b => ?_; simp only [go_sem, *, lenK_sl, ints_len, natI_len, lt1, w1, indexAddrA, Int.natCast_nonneg, Int.toNat_natCast, hpl, hget, k1, k2, set_lenAdd, Nat.zero_le, getElem?_len, getElem?_lenAdd, set_len, List.append_assoc, List.length_append, List.length_map, lenK_str, snap_sl, rowsOf_sl, ints_take, List.take_length, Bool.true_or]; (repeat' first | apply a.1 | apply b.1 | refine iteI (fun h => ?_) fun h => ?_) <;> clear a b A B))
          refine each_next hh1.out ?_ ?_ ?_
          · intro p hp
            rcases List.mem_append.1 hp with h | h
            · exact hPH.out p h
            · simp at h; subst h; exact hok.out
          · ((try simp only [eraseA_cons, eraseA_nil, setL_cons, setL_nil, List.set_cons_zero, List.set_cons_succ]); all_goals (first | rfl | (simp only [len_snoc, ints_len, List.length_map, ]; done) | (simp only [len_snoc, len_mid, ints_len, List.length_map, List.length_append, List.length_cons, List.length_nil, Nat.zero_add, ]; first | done | rfl)))
          · first | exact ⟨[], (List.append_nil _).symm⟩ | exact ⟨_, rfl⟩ | (simp only [List.append_assoc, List.cons_append, List.nil_append]; exact ⟨_, rfl⟩)

/-! ### Documents -/
/-- A document's values. -/
structure Dc where
  id : Int
  nm : ByteArray
  len : Int
  day : Int
  sp : AV
  tv : AV
  nv : AV
def encD (d : Dc) : List AV := [.int .i64 d.id, .str d.nm, .int .i64 d.len, .int .i64 d.day, d.sp, d.tv, d.nv]
structure Dc.ok (d : Dc) (ts : List Ti) (ns : List Nt) : Prop where
  sc : d.sp.cell = true
  ss : ∀ S, snap S d.sp = some d.sp
  t : SLs 4 (ts.map encT) d.tv
  n : SLs 7 (ns.map encN) d.nv
  p1 : d.sp.stab = true
  p2 : d.tv.stab = true
  p3 : d.nv.stab = true
theorem Dc.ok.tc {d : Dc} {ts : List Ti} {ns : List Nt} (h : d.ok ts ns) : d.tv.cell = true := h.t.cell
theorem Dc.ok.nc {d : Dc} {ts : List Ti} {ns : List Nt} (h : d.ok ts ns) : d.nv.cell = true := h.n.cell
theorem Dc.ok.tsn {d : Dc} {ts : List Ti} {ns : List Nt} (h : d.ok ts ns) : ∀ S, snap S d.tv = some d.tv := h.t.snap
theorem Dc.ok.nsn {d : Dc} {ts : List Ti} {ns : List Nt} (h : d.ok ts ns) : ∀ S, snap S d.nv = some d.nv := h.n.snap

def zN : Nt := ⟨0, 0, 0, 0, 0, 0, .empty⟩
def getV : Option Nt → AV
  | some p => .tup [.agg (encN p), .bool true]
  | none => .tup [.agg (encN zN), .bool false]
theorem getN_cons (x : Nt) (l : List Nt) (n : Int) : getN (x :: l) n = if x.id == n then some x else getN l n := by
  simp only [getN, List.find?_cons]; cases (x.id == n) <;> rfl
theorem adoptNB {id : Nat} {cs : List AV} {b : Bool} : adoptA id (.tup [.agg cs, .bool b]) = (.tup [.agg cs, .bool b], []) := rfl
theorem expNB {cs : List AV} {b : Bool} {R : AV → Prop} {S : Store} (h : ∀ c ∈ cs, expCell S c = some c) : expK R (.tup [.agg cs, .bool b]) S = R (.tup [.agg cs, .bool b]) := by
  have e : expCells S cs = some cs := by
    induction cs with
    | nil => rfl
    | cons c cs ih => simp only [expCells, h c (by simp), ih fun x hx => h x (by simp [hx])]
  have e3 : ownIds [AV.agg cs, .bool b] = [] := rfl
  have k5 : ∀ (S : Store) (m : Bool), expTop S (.bool m) = some (.bool m) := fun _ _ => rfl
  simp only [expK, exportA, idsOK, e3, if_true, expTops, expTop, e]
  rfl

theorem getE {d : Dc} {ts : List Ti} {ns : List Nt} (n : Int) (hd : d.ok ts ns) (hl : ns.length ≤ 9223372036854775807) : EvV CX 11 [.agg (encD d), .int .i64 n] (· = getV (getN ns n)) := by
  have c1 := hd.nc
  have c2 := hd.tc
  have c3 := hd.sc
  have hn := hd.n
  have k3 : ∀ (S : Store) (m : Int), expCell S (.int .i64 m) = some (.int .i64 m) := fun _ _ => rfl
  have k4 : ∀ (S : Store) (m : ByteArray), expCell S (.str m) = some (.str m) := fun _ _ => rfl
  have k5 : ∀ (S : Store) (m : Bool), expTop S (.bool m) = some (.bool m) := fun _ _ => rfl
  refine EvV.walk rfl fn11 rfl nt11 rfl ?_
  simp only [List.length_cons, List.length_nil, List.cons_append, List.nil_append, Nat.reduceAdd, Nat.reduceSub, List.replicate]
  repeat' (first | refine go1 ?_ | refine blockK_else rfl ?_ | (refine go2 fun A B a b => ?_; simp only [go_sem, *, encD, c1, c2, c3, lenK_sls hn]; (repeat' first | apply a.1 | apply b.1 | refine iteI (fun h => ?_) fun h => ?_) <;> clear a b A B))
  refine wpC_each [5, 7, 8, 9, 10, 11, 12, 13, 14, 15, 16, 17, 18, 19, 20, 21, 22, 23, 24, 25, 26] 6 ns (fun _ post => getN ns n = getN post n) ?_ ?_ ?_ ?_
  · rfl
  · rfl
  · intro g G h2
    have e : getN ns n = none := h2
    rw [e, getV]
    clear h2 e
    simp only [garbA_cons, garbA_nil, setL_cons, setL_nil, List.set_cons_zero, List.set_cons_succ]
    repeat' (first | refine go1 ?_ | refine blockK_else rfl ?_ | (refine go2 fun A B a b => ?_; simp only [go_sem, *, encD, c1, c2, c3, lenK_sls hn, List.length_map, Int.lt_irrefl, set_lenAdd, Nat.zero_le, getElem?_len, getElem?_lenAdd, set_len, List.append_assoc, List.length_append, lenK_str, snap_sl, rowsOf_sl, ints_len, ints_take, List.take_length, Bool.true_or]; (repeat' first | apply a.1 | apply b.1 | refine iteI (fun h => ?_) fun h => ?_) <;> clear a b A B))
    simp only [go_sem, expK_tup]
    rw [if_pos (show idsOK _ = true from rfl)]
    simp only [expTops, expTop, expCells, k3, k4, k5]
    rfl
  · intro g G pre x post h1 h2
    have hpl : pre.length < ns.length := by rw [h1]; simp
    have lt1 : (pre.length : Int) < (ns.length : Int) := by omega
    have w1 := wrap_succ (n := pre.length) (by omega)
    have i1 := idx_sls hn (X := CX) ty26 ty40 rfl (n := pre.length) (row := encN x) (k := .i64) (by rw [h1]; exact map_midV encN pre x post)
    have hh1 : Hold (ns = pre ++ x :: post) := ⟨h1⟩
    rw [getN_cons] at h2
    clear h1 hpl
    cases hx : (x.id == n) with
    | true =>
      have e : getN ns n = some x := by rw [h2, hx]; rfl
      rw [e, getV]
      clear h2 e
      simp only [garbA_cons, garbA_nil, setL_cons, setL_nil, List.set_cons_zero, List.set_cons_succ]
      repeat' (first | refine go1 ?_ | refine blockK_else rfl ?_ | (refine go2 fun A B a b => ?_; simp only [go_sem, *, encD, c1, c2, c3, lt1, i1, hx, encN, lenK_sls hn, List.length_map, set_lenAdd, Nat.zero_le, getElem?_len, getElem?_lenAdd, set_len, List.append_assoc, List.length_append, lenK_str, snap_sl, rowsOf_sl, ints_len, ints_take, List.take_length, Bool.true_or]; (repeat' first | apply a.1 | apply b.1 | refine iteI (fun h => ?_) fun h => ?_) <;> clear a b A B))
      simp only [go_sem, expK_tup]
      rw [if_pos (show idsOK _ = true from rfl)]
      simp only [expTops, expTop, expCells, k3, k4, k5]
      rfl
    | false =>
      have hh : Hold (getN ns n = getN post n) := ⟨by rw [h2, hx]; rfl⟩
      clear h2
      simp only [garbA_cons, garbA_nil, setL_cons, setL_nil, List.set_cons_zero, List.set_cons_succ]
      repeat' (first | refine go1 ?_ | refine blockK_else rfl ?_ | (refine go2 fun A B a b => ?_; simp only [go_sem, *, encD, c1, c2, c3, lt1, w1, i1, hx, encN, lenK_sls hn, List.length_map, set_lenAdd, Nat.zero_le, getElem?_len, getElem?_lenAdd, set_len, List.append_assoc, List.length_append, lenK_str, snap_sl, rowsOf_sl, ints_len, ints_take, List.take_length, Bool.true_or]; (repeat' first | apply a.1 | apply b.1 | refine iteI (fun h => ?_) fun h => ?_) <;> clear a b A B))
      refine each_next hh1.out hh.out ?_ ?_
      · ((try simp only [eraseA_cons, eraseA_nil, setL_cons, setL_nil, List.set_cons_zero, List.set_cons_succ]); all_goals (first | rfl | (simp only [len_snoc, ints_len, List.length_map, ]; done) | (simp only [len_snoc, len_mid, ints_len, List.length_map, List.length_append, List.length_cons, List.length_nil, Nat.zero_add, ]; first | done | rfl)))
      · first | exact ⟨[], (List.append_nil _).symm⟩ | exact ⟨_, rfl⟩ | (simp only [List.append_assoc, List.cons_append, List.nil_append]; exact ⟨_, rfl⟩)

/-- What the reference says of a note's place. -/
structure PlOK (len : Int) (ts : List Ti) (ns : List Nt) (n : Nt) : Prop where
  par0 : (tierAt ts n.ti).kd = 0 → n.pa = 0
  par : (tierAt ts n.ti).kd ≠ 0 → ∃ p, getN ns n.pa = some p ∧ p.ti = (tierAt ts n.ti).pa ∧ (alK (tierAt ts n.ti).kd = true → p.fr ≤ n.fr ∧ n.en ≤ p.en)
  sp : alK (tierAt ts n.ti).kd = true → 0 ≤ n.fr ∧ n.fr < n.en ∧ n.en ≤ 86400000
  sp0 : alK (tierAt ts n.ti).kd = false → n.fr = 0 ∧ n.en = 0
  len : (tierAt ts n.ti).kd = 0 → n.en ≤ len
  rk0 : 0 ≤ n.rk
  rk1 : (tierAt ts n.ti).kd ≠ 3 → n.rk = 0

theorem placedE {d : Dc} {ts : List Ti} {ns : List Nt} {n : Nt} (hd : d.ok ts ns) (hl : ns.length ≤ 9223372036854775807) (h0 : 0 ≤ n.ti) (h1 : n.ti < ts.length) :
    ∃ e, (e = 0 → PlOK d.len ts ns n) ∧ EvV CX 44 [.agg (encD d), .agg (encN n)] (· = .int .i64 e) := by
  suffices h : EvV CX 44 [.agg (encD d), .agg (encN n)] (fun r => ∃ e, r = .int .i64 e ∧ (e = 0 → PlOK d.len ts ns n)) by
    obtain ⟨r, ⟨b, rfl, hb⟩, h⟩ := h.ex
    exact ⟨b, hb, h⟩
  have c1 := hd.nc
  have c2 := hd.tc
  have c3 := hd.sc
  have s1 := hd.nsn
  have s2 := hd.tsn
  have s3 := hd.ss
  have ht : ts[n.ti.toNat]? = some (tierAt ts n.ti) := by
    unfold tierAt
    rw [List.getD_eq_getElem?_getD, List.getElem?_eq_getElem (by omega)]; rfl
  have i0 := idx_sls hd.t (X := CX) ty25 ty53 rfl (n := n.ti.toNat) (row := encT (tierAt ts n.ti)) (k := .i64) (by rw [List.getElem?_map, ht]; rfl)
  rw [show ((n.ti.toNat : Nat) : Int) = n.ti by omega] at i0
  have qg := (getE n.pa hd hl).rw
  obtain ⟨t, hT⟩ : ∃ t, tierAt ts n.ti = t := ⟨_, rfl⟩
  have qa := (alignedE t.kd).rw
  have qr := (Fo.rightR (n.fr, n.en)).rw
  have hTH : Hold (tierAt ts n.ti = t) := ⟨hT⟩
  rw [hT] at i0
  simp only [encD] at qg
  simp only [Fo.encE] at qr
  clear ht hT h0 h1 hl
  cases k0 : (t.kd == 0) with
  | true =>
    have hk : Hold (t.kd = 0) := ⟨by simpa using k0⟩
    have ha : alK t.kd = true := by rw [hk.out]; rfl
    cases k1 : (n.pa == 0) with
    | false =>
      obtain ⟨z, b, hz⟩ : ∃ z b, getV (getN ns n.pa) = .tup [.agg (encN z), .bool b] := by cases getN ns n.pa; exact ⟨_, _, rfl⟩; exact ⟨_, _, rfl⟩
      rw [hz] at qg
      refine EvV.walk rfl fn44 rfl nt44 rfl ?_
      simp only [List.length_cons, List.length_nil, List.cons_append, List.nil_append, Nat.reduceAdd, Nat.reduceSub, List.replicate]
      repeat' (first | refine go1 ?_ | refine blockK_else rfl ?_ | (refine go2 fun A B a b => ?_; simp only [go_sem, *, encD, encN, encT, c1, c2, c3, s1, s2, s3, i0, qg, adoptNB, k0, k1, set_lenAdd, Nat.zero_le, getElem?_len, getElem?_lenAdd, set_len, List.append_assoc, List.length_append, List.length_map, lenK_str, snap_sl, rowsOf_sl, ints_len, ints_take, List.take_length, Bool.true_or]; (repeat' first | apply a.1 | apply b.1 | refine iteI (fun h => ?_) fun h => ?_) <;> clear a b A B))
      all_goals simp only [go_sem]
      all_goals exact ⟨_, rfl, fun h => by cases h⟩
    | true =>
      obtain ⟨z, b, hz⟩ : ∃ z b, getV (getN ns n.pa) = .tup [.agg (encN z), .bool b] := by cases getN ns n.pa; exact ⟨_, _, rfl⟩; exact ⟨_, _, rfl⟩
      rw [hz] at qg
      have hpa : Hold (n.pa = 0) := ⟨by simpa using k1⟩
      cases k2 : rgt (n.fr, n.en) with
      | false =>
        rw [k2] at qr
        refine EvV.walk rfl fn44 rfl nt44 rfl ?_
        simp only [List.length_cons, List.length_nil, List.cons_append, List.nil_append, Nat.reduceAdd, Nat.reduceSub, List.replicate]
        repeat' (first | refine go1 ?_ | refine blockK_else rfl ?_ | (refine go2 fun A B a b => ?_; simp only [go_sem, *, encD, encN, encT, c1, c2, c3, s1, s2, s3, i0, qg, adoptNB, k0, k1, qa, qr, ha, set_lenAdd, Nat.zero_le, getElem?_len, getElem?_lenAdd, set_len, List.append_assoc, List.length_append, List.length_map, lenK_str, snap_sl, rowsOf_sl, ints_len, ints_take, List.take_length, Bool.true_or]; (repeat' first | apply a.1 | apply b.1 | refine iteI (fun h => ?_) fun h => ?_) <;> clear a b A B))
        all_goals simp only [go_sem]
        all_goals exact ⟨_, rfl, fun h => by cases h⟩
      | true =>
        rw [k2] at qr
        have hr : Hold (rgt (n.fr, n.en) = true) := ⟨k2⟩
        have haH : Hold (alK t.kd = true) := ⟨ha⟩
        clear k2
        refine EvV.walk rfl fn44 rfl nt44 rfl ?_
        simp only [List.length_cons, List.length_nil, List.cons_append, List.nil_append, Nat.reduceAdd, Nat.reduceSub, List.replicate]
        repeat' (first | refine go1 ?_ | refine blockK_else rfl ?_ | (refine go2 fun A B a b => ?_; simp only [go_sem, *, encD, encN, encT, c1, c2, c3, s1, s2, s3, i0, qg, adoptNB, k0, k1, qa, qr, ha, set_lenAdd, Nat.zero_le, getElem?_len, getElem?_lenAdd, set_len, List.append_assoc, List.length_append, List.length_map, lenK_str, snap_sl, rowsOf_sl, ints_len, ints_take, List.take_length, Bool.true_or]; (repeat' first | apply a.1 | apply b.1 | refine iteI (fun h => ?_) fun h => ?_) <;> clear a b A B))
        all_goals
          simp only [go_sem]
          refine ⟨_, rfl, ?_⟩
          first
            | (intro h; cases h; done)
            | (intro _
               have e := hTH.out
               have hk0 := hk.out
               have hr0 := rgt_iff.1 hr.out
               simp only [bne, Bool.not_eq_true', Bool.not_eq_false', beq_iff_eq, beq_eq_false_iff_ne, Int.not_lt, ne_eq, not_false_eq_true, Bool.or_eq_true] at *
               refine ⟨fun _ => hpa.out, ?_, fun _ => hr0, ?_, ?_, ?_, ?_⟩
               · rw [e]; intro h; exact absurd hk0 h
               · rw [e, haH.out]; intro h; cases h
               · intro _; omega
               · omega
               · first | (intro _; omega) | (rw [e, hk0]; intro h; omega))
  | false =>
    have hk : Hold (¬ t.kd = 0) := ⟨by simpa using k0⟩
    cases hg : getN ns n.pa with
    | none =>
      rw [hg, getV] at qg
      refine EvV.walk rfl fn44 rfl nt44 rfl ?_
      simp only [List.length_cons, List.length_nil, List.cons_append, List.nil_append, Nat.reduceAdd, Nat.reduceSub, List.replicate]
      repeat' (first | refine go1 ?_ | refine blockK_else rfl ?_ | (refine go2 fun A B a b => ?_; simp only [go_sem, *, encD, encN, encT, c1, c2, c3, s1, s2, s3, i0, qg, adoptNB, k0, set_lenAdd, Nat.zero_le, getElem?_len, getElem?_lenAdd, set_len, List.append_assoc, List.length_append, List.length_map, lenK_str, snap_sl, rowsOf_sl, ints_len, ints_take, List.take_length, Bool.true_or]; (repeat' first | apply a.1 | apply b.1 | refine iteI (fun h => ?_) fun h => ?_) <;> clear a b A B))
      all_goals simp only [go_sem]
      all_goals exact ⟨_, rfl, fun h => by cases h⟩
    | some p =>
    rw [hg, getV] at qg
    have hgH : Hold (getN ns n.pa = some p) := ⟨hg⟩
    clear hg
    cases k1 : (p.ti == t.pa) with
    | false =>
      refine EvV.walk rfl fn44 rfl nt44 rfl ?_
      simp only [List.length_cons, List.length_nil, List.cons_append, List.nil_append, Nat.reduceAdd, Nat.reduceSub, List.replicate]
      repeat' (first | refine go1 ?_ | refine blockK_else rfl ?_ | (refine go2 fun A B a b => ?_; simp only [go_sem, *, encD, encN, encT, c1, c2, c3, s1, s2, s3, i0, qg, adoptNB, k0, k1, set_lenAdd, Nat.zero_le, getElem?_len, getElem?_lenAdd, set_len, List.append_assoc, List.length_append, List.length_map, lenK_str, snap_sl, rowsOf_sl, ints_len, ints_take, List.take_length, Bool.true_or]; (repeat' first | apply a.1 | apply b.1 | refine iteI (fun h => ?_) fun h => ?_) <;> clear a b A B))
      all_goals simp only [go_sem]
      all_goals exact ⟨_, rfl, fun h => by cases h⟩
    | true =>
    have hpt : Hold (p.ti = t.pa) := ⟨by simpa using k1⟩
    cases ha : alK t.kd with
    | true =>
      have haH : Hold (alK t.kd = true) := ⟨ha⟩
      cases k2 : rgt (n.fr, n.en) with
      | false =>
        rw [k2] at qr
        refine EvV.walk rfl fn44 rfl nt44 rfl ?_
        simp only [List.length_cons, List.length_nil, List.cons_append, List.nil_append, Nat.reduceAdd, Nat.reduceSub, List.replicate]
        repeat' (first | refine go1 ?_ | refine blockK_else rfl ?_ | (refine go2 fun A B a b => ?_; simp only [go_sem, *, encD, encN, encT, c1, c2, c3, s1, s2, s3, i0, qg, adoptNB, k0, k1, qa, qr, ha, set_lenAdd, Nat.zero_le, getElem?_len, getElem?_lenAdd, set_len, List.append_assoc, List.length_append, List.length_map, lenK_str, snap_sl, rowsOf_sl, ints_len, ints_take, List.take_length, Bool.true_or]; (repeat' first | apply a.1 | apply b.1 | refine iteI (fun h => ?_) fun h => ?_) <;> clear a b A B))
        all_goals simp only [go_sem]
        all_goals exact ⟨_, rfl, fun h => by cases h⟩
      | true =>
        rw [k2] at qr
        have hr : Hold (rgt (n.fr, n.en) = true) := ⟨k2⟩
        clear k2
        refine EvV.walk rfl fn44 rfl nt44 rfl ?_
        simp only [List.length_cons, List.length_nil, List.cons_append, List.nil_append, Nat.reduceAdd, Nat.reduceSub, List.replicate]
        repeat' (first | refine go1 ?_ | refine blockK_else rfl ?_ | (refine go2 fun A B a b => ?_; simp only [go_sem, *, encD, encN, encT, c1, c2, c3, s1, s2, s3, i0, qg, adoptNB, k0, k1, qa, qr, ha, set_lenAdd, Nat.zero_le, getElem?_len, getElem?_lenAdd, set_len, List.append_assoc, List.length_append, List.length_map, lenK_str, snap_sl, rowsOf_sl, ints_len, ints_take, List.take_length, Bool.true_or]; (repeat' first | apply a.1 | apply b.1 | refine iteI (fun h => ?_) fun h => ?_) <;> clear a b A B))
        all_goals
          simp only [go_sem]
          refine ⟨_, rfl, ?_⟩
          first
            | (intro h; cases h; done)
            | (intro _
               have e := hTH.out
               have hk0 := hk.out
               have hr0 := rgt_iff.1 hr.out
               simp only [bne, Bool.not_eq_true', Bool.not_eq_false', beq_iff_eq, beq_eq_false_iff_ne, Int.not_lt, ne_eq, not_false_eq_true, Bool.or_eq_true] at *
               refine ⟨?_, ?_, fun _ => hr0, ?_, ?_, ?_, ?_⟩
               · rw [e]; intro h; exact absurd h hk0
               · rw [e]; intro _; exact ⟨p, hgH.out, hpt.out, fun _ => ⟨by omega, by omega⟩⟩
               · rw [e, haH.out]; intro h; cases h
               · rw [e]; intro h; exact absurd h hk0
               · omega
               · rw [e]; first | (intro _; omega) | (intro h; omega) | (intro h; exact absurd ‹t.kd = 3› h))
    | false =>
      have haH : Hold (alK t.kd = false) := ⟨ha⟩
      refine EvV.walk rfl fn44 rfl nt44 rfl ?_
      simp only [List.length_cons, List.length_nil, List.cons_append, List.nil_append, Nat.reduceAdd, Nat.reduceSub, List.replicate]
      repeat' (first | refine go1 ?_ | refine blockK_else rfl ?_ | (refine go2 fun A B a b => ?_; simp only [go_sem, *, encD, encN, encT, c1, c2, c3, s1, s2, s3, i0, qg, adoptNB, k0, k1, qa, ha, set_lenAdd, Nat.zero_le, getElem?_len, getElem?_lenAdd, set_len, List.append_assoc, List.length_append, List.length_map, lenK_str, snap_sl, rowsOf_sl, ints_len, ints_take, List.take_length, Bool.true_or]; (repeat' first | apply a.1 | apply b.1 | refine iteI (fun h => ?_) fun h => ?_) <;> clear a b A B))
      all_goals
        simp only [go_sem]
        refine ⟨_, rfl, ?_⟩
        first
          | (intro h; cases h; done)
          | (intro _
             have e := hTH.out
             have hk0 := hk.out
             simp only [bne, Bool.not_eq_true', Bool.not_eq_false', beq_iff_eq, beq_eq_false_iff_ne, Int.not_lt, ne_eq, not_false_eq_true, Bool.or_eq_true, Bool.and_eq_true] at *
             refine ⟨?_, ?_, ?_, ?_, ?_, ?_, ?_⟩
             · rw [e]; intro h; exact absurd h hk0
             · rw [e]; intro _; exact ⟨p, hgH.out, hpt.out, fun h => by rw [haH.out] at h; cases h⟩
             · rw [e, haH.out]; intro h; cases h
             · intro _; constructor <;> omega
             · rw [e]; intro h; exact absurd h hk0
             · omega
             · rw [e]; first | (intro _; omega) | (intro h; omega) | (intro h; exact absurd ‹t.kd = 3› h))

theorem noteE {d : Dc} {ts : List Ti} {ns pre post : List Nt} {n : Nt} (hd : d.ok ts ns) (hns : ns = pre ++ n :: post) (hl : ns.length ≤ 9223372036854775807) (hx : n.tx.size ≤ 9223372036854775807) (htl : ts.length ≤ 9223372036854775807) :
    ∃ e, (e = 0 → NoteOK TX d.len ts ns n ∧ (∀ y, pre.getLast? = some y → y.id < n.id)) ∧ EvV CX 30 [.agg (encD d), .int .i64 pre.length] (· = .int .i64 e) := by
  suffices h : EvV CX 30 [.agg (encD d), .int .i64 pre.length] (fun r => ∃ e, r = .int .i64 e ∧ (e = 0 → NoteOK TX d.len ts ns n ∧ (∀ y, pre.getLast? = some y → y.id < n.id))) by
    obtain ⟨r, ⟨b, rfl, hb⟩, h⟩ := h.ex
    exact ⟨b, hb, h⟩
  have c1 := hd.nc
  have c2 := hd.tc
  have c3 := hd.sc
  have s1 := hd.nsn
  have s2 := hd.tsn
  have s3 := hd.ss
  have ht := hd.t
  have i0 := idx_sls hd.n (X := CX) ty26 ty40 rfl (n := pre.length) (row := encN n) (k := .i64) (by rw [hns]; exact map_midV encN pre n post)
  obtain ⟨et, het, qt⟩ := textR n.tx hx
  have qt := qt.rw
  by_cases k1 : n.id < 1
  · refine EvV.walk rfl fn30 rfl nt30 rfl ?_
    simp only [List.length_cons, List.length_nil, List.cons_append, List.nil_append, Nat.reduceAdd, Nat.reduceSub, List.replicate]
    repeat' (first | refine go1 ?_ | refine blockK_else rfl ?_ | (refine go2 fun A B a b => ?_; simp only [go_sem, *, encD, encN, c1, c2, c3, i0, k1, set_lenAdd, Nat.zero_le, getElem?_len, getElem?_lenAdd, set_len, List.append_assoc, List.length_append, List.length_map, lenK_str, snap_sl, rowsOf_sl, ints_len, ints_take, List.take_length, Bool.true_or]; (repeat' first | apply a.1 | apply b.1 | refine iteI (fun h => ?_) fun h => ?_) <;> clear a b A B))
    all_goals simp only [go_sem]
    all_goals exact ⟨_, rfl, fun h => by cases h⟩
  by_cases k2 : 1099511627776 < n.id
  · refine EvV.walk rfl fn30 rfl nt30 rfl ?_
    simp only [List.length_cons, List.length_nil, List.cons_append, List.nil_append, Nat.reduceAdd, Nat.reduceSub, List.replicate]
    repeat' (first | refine go1 ?_ | refine blockK_else rfl ?_ | (refine go2 fun A B a b => ?_; simp only [go_sem, *, encD, encN, c1, c2, c3, i0, k1, k2, set_lenAdd, Nat.zero_le, getElem?_len, getElem?_lenAdd, set_len, List.append_assoc, List.length_append, List.length_map, lenK_str, snap_sl, rowsOf_sl, ints_len, ints_take, List.take_length, Bool.true_or]; (repeat' first | apply a.1 | apply b.1 | refine iteI (fun h => ?_) fun h => ?_) <;> clear a b A B))
    all_goals simp only [go_sem]
    all_goals exact ⟨_, rfl, fun h => by cases h⟩
  have prev : ((0 : Int) < (pre.length : Int) ∧ ∃ y, pre.getLast? = some y ∧ indexAddrA CX 26 d.nv (.int .i64 (IntKind.wrap .i64 ((pre.length : Int) - 1))) = some (.tptr (stOf d.nv) (encN y) 0)) ∨ (¬ (0 : Int) < (pre.length : Int) ∧ pre.getLast? = none) := by
    rcases snoc_cases pre with rfl | ⟨p, y, rfl⟩
    · exact .inr ⟨by simp, rfl⟩
    · refine .inl ⟨by simp, y, by simp, ?_⟩
      have hl2 := hl
      rw [hns] at hl2
      simp only [List.length_append, List.length_cons, List.length_nil] at hl2
      have e : IntKind.wrap .i64 (((p ++ [y]).length : Int) - 1) = (p.length : Int) := by
        rw [wrap_small (by simp <;> omega) (by simp <;> omega)]; simp
      rw [e]
      exact idx_sls hd.n ty26 ty40 rfl (by rw [hns]; simp)
  have tail : ∀ (hord : ∀ y, pre.getLast? = some y → y.id < n.id), (∀ h0 : 0 ≤ n.ti, ∀ h1 : n.ti < ts.length, et = 0 → ∃ e, (e = 0 → NoteOK TX d.len ts ns n ∧ (∀ y, pre.getLast? = some y → y.id < n.id)) ∧ EvV CX 44 [.agg (encD d), .agg (encN n)] (· = .int .i64 e)) := by
    intro hord h0 h1 he
    obtain ⟨e, he2, q⟩ := placedE hd hl h0 h1
    refine ⟨e, fun hz => ⟨?_, hord⟩, q⟩
    have p := he2 hz
    exact ⟨by omega, h0, h1, het he, p.par0, p.par, p.sp, p.sp0, p.len, p.rk0, p.rk1⟩
  have tailH : Hold (∀ (hord : ∀ y, pre.getLast? = some y → y.id < n.id), (∀ h0 : 0 ≤ n.ti, ∀ h1 : n.ti < ts.length, et = 0 → ∃ e, (e = 0 → NoteOK TX d.len ts ns n ∧ (∀ y, pre.getLast? = some y → y.id < n.id)) ∧ EvV CX 44 [.agg (encD d), .agg (encN n)] (· = .int .i64 e))) := ⟨tail⟩
  clear tail het
  have fin : ∀ (hord : ∀ y, pre.getLast? = some y → y.id < n.id), (¬ (0 : Int) < (pre.length : Int) ∨ ((0 : Int) < (pre.length : Int) ∧ ∃ y, indexAddrA CX 26 d.nv (.int .i64 (IntKind.wrap .i64 ((pre.length : Int) - 1))) = some (.tptr (stOf d.nv) (encN y) 0) ∧ ¬ n.id ≤ y.id)) →
      EvV CX 30 [.agg (encD d), .int .i64 pre.length] (fun r => ∃ e, r = .int .i64 e ∧ (e = 0 → NoteOK TX d.len ts ns n ∧ (∀ y, pre.getLast? = some y → y.id < n.id))) := by
    intro hord hcase
    have hoH : Hold (∀ y, pre.getLast? = some y → y.id < n.id) := ⟨hord⟩
    clear hord prev hns
    by_cases k3 : n.ti < 0
    · rcases hcase with k5 | ⟨k5, y, iy, k6⟩
      · refine EvV.walk rfl fn30 rfl nt30 rfl ?_
        simp only [List.length_cons, List.length_nil, List.cons_append, List.nil_append, Nat.reduceAdd, Nat.reduceSub, List.replicate]
        repeat' (first | refine go1 ?_ | refine blockK_else rfl ?_ | (refine go2 fun A B a b => ?_; simp only [go_sem, *, encD, encN, c1, c2, c3, i0, k1, k2, k3, k5, set_lenAdd, Nat.zero_le, getElem?_len, getElem?_lenAdd, set_len, List.append_assoc, List.length_append, List.length_map, lenK_str, snap_sl, rowsOf_sl, ints_len, ints_take, List.take_length, Bool.true_or]; (repeat' first | apply a.1 | apply b.1 | refine iteI (fun h => ?_) fun h => ?_) <;> clear a b A B))
        all_goals simp only [go_sem]
        all_goals exact ⟨_, rfl, fun h => by cases h⟩
      · refine EvV.walk rfl fn30 rfl nt30 rfl ?_
        simp only [List.length_cons, List.length_nil, List.cons_append, List.nil_append, Nat.reduceAdd, Nat.reduceSub, List.replicate]
        repeat' (first | refine go1 ?_ | refine blockK_else rfl ?_ | (refine go2 fun A B a b => ?_; simp only [go_sem, *, encD, encN, c1, c2, c3, i0, k1, k2, k3, k5, iy, k6, set_lenAdd, Nat.zero_le, getElem?_len, getElem?_lenAdd, set_len, List.append_assoc, List.length_append, List.length_map, lenK_str, snap_sl, rowsOf_sl, ints_len, ints_take, List.take_length, Bool.true_or]; (repeat' first | apply a.1 | apply b.1 | refine iteI (fun h => ?_) fun h => ?_) <;> clear a b A B))
        all_goals simp only [go_sem]
        all_goals exact ⟨_, rfl, fun h => by cases h⟩
    by_cases k4 : (ts.length : Int) ≤ n.ti
    · rcases hcase with k5 | ⟨k5, y, iy, k6⟩
      · refine EvV.walk rfl fn30 rfl nt30 rfl ?_
        simp only [List.length_cons, List.length_nil, List.cons_append, List.nil_append, Nat.reduceAdd, Nat.reduceSub, List.replicate]
        repeat' (first | refine go1 ?_ | refine blockK_else rfl ?_ | (refine go2 fun A B a b => ?_; simp only [go_sem, *, encD, encN, c1, c2, c3, i0, k1, k2, k3, k4, k5, lenK_sls ht, List.length_map, set_lenAdd, Nat.zero_le, getElem?_len, getElem?_lenAdd, set_len, List.append_assoc, List.length_append, lenK_str, snap_sl, rowsOf_sl, ints_len, ints_take, List.take_length, Bool.true_or]; (repeat' first | apply a.1 | apply b.1 | refine iteI (fun h => ?_) fun h => ?_) <;> clear a b A B))
        all_goals simp only [go_sem]
        all_goals exact ⟨_, rfl, fun h => by cases h⟩
      · refine EvV.walk rfl fn30 rfl nt30 rfl ?_
        simp only [List.length_cons, List.length_nil, List.cons_append, List.nil_append, Nat.reduceAdd, Nat.reduceSub, List.replicate]
        repeat' (first | refine go1 ?_ | refine blockK_else rfl ?_ | (refine go2 fun A B a b => ?_; simp only [go_sem, *, encD, encN, c1, c2, c3, i0, k1, k2, k3, k4, k5, iy, k6, lenK_sls ht, List.length_map, set_lenAdd, Nat.zero_le, getElem?_len, getElem?_lenAdd, set_len, List.append_assoc, List.length_append, lenK_str, snap_sl, rowsOf_sl, ints_len, ints_take, List.take_length, Bool.true_or]; (repeat' first | apply a.1 | apply b.1 | refine iteI (fun h => ?_) fun h => ?_) <;> clear a b A B))
        all_goals simp only [go_sem]
        all_goals exact ⟨_, rfl, fun h => by cases h⟩
    by_cases k7 : et = 0
    · obtain ⟨e, he, q⟩ := tailH.out hoH.out (by omega) (by omega) k7
      have q := q.rw
      simp only [encD, encN] at q
      have heH : Hold (e = 0 → NoteOK TX d.len ts ns n ∧ (∀ y, pre.getLast? = some y → y.id < n.id)) := ⟨he⟩
      clear he
      have k7 : (et == 0) = true := by simpa using k7
      rcases hcase with k5 | ⟨k5, y, iy, k6⟩
      · refine EvV.walk rfl fn30 rfl nt30 rfl ?_
        simp only [List.length_cons, List.length_nil, List.cons_append, List.nil_append, Nat.reduceAdd, Nat.reduceSub, List.replicate]
        repeat' (first | refine go1 ?_ | refine blockK_else rfl ?_ | (refine go2 fun A B a b => ?_; simp only [go_sem, *, encD, encN, c1, c2, c3, s1, s2, s3, i0, k1, k2, k3, k4, k5, k7, qt, q, lenK_sls ht, List.length_map, set_lenAdd, Nat.zero_le, getElem?_len, getElem?_lenAdd, set_len, List.append_assoc, List.length_append, lenK_str, snap_sl, rowsOf_sl, ints_len, ints_take, List.take_length, Bool.true_or]; (repeat' first | apply a.1 | apply b.1 | refine iteI (fun h => ?_) fun h => ?_) <;> clear a b A B))
        all_goals simp only [go_sem]
        all_goals exact ⟨_, rfl, heH.out⟩
      · refine EvV.walk rfl fn30 rfl nt30 rfl ?_
        simp only [List.length_cons, List.length_nil, List.cons_append, List.nil_append, Nat.reduceAdd, Nat.reduceSub, List.replicate]
        repeat' (first | refine go1 ?_ | refine blockK_else rfl ?_ | (refine go2 fun A B a b => ?_; simp only [go_sem, *, encD, encN, c1, c2, c3, s1, s2, s3, i0, k1, k2, k3, k4, k5, iy, k6, k7, qt, q, lenK_sls ht, List.length_map, set_lenAdd, Nat.zero_le, getElem?_len, getElem?_lenAdd, set_len, List.append_assoc, List.length_append, lenK_str, snap_sl, rowsOf_sl, ints_len, ints_take, List.take_length, Bool.true_or]; (repeat' first | apply a.1 | apply b.1 | refine iteI (fun h => ?_) fun h => ?_) <;> clear a b A B))
        all_goals simp only [go_sem]
        all_goals exact ⟨_, rfl, heH.out⟩
    · have hz : Hold (et ≠ 0) := ⟨k7⟩
      have k7 : (et == 0) = false := by simpa using k7
      rcases hcase with k5 | ⟨k5, y, iy, k6⟩
      · refine EvV.walk rfl fn30 rfl nt30 rfl ?_
        simp only [List.length_cons, List.length_nil, List.cons_append, List.nil_append, Nat.reduceAdd, Nat.reduceSub, List.replicate]
        repeat' (first | refine go1 ?_ | refine blockK_else rfl ?_ | (refine go2 fun A B a b => ?_; simp only [go_sem, *, encD, encN, c1, c2, c3, s1, s2, s3, i0, k1, k2, k3, k4, k5, k7, qt, lenK_sls ht, List.length_map, set_lenAdd, Nat.zero_le, getElem?_len, getElem?_lenAdd, set_len, List.append_assoc, List.length_append, lenK_str, snap_sl, rowsOf_sl, ints_len, ints_take, List.take_length, Bool.true_or]; (repeat' first | apply a.1 | apply b.1 | refine iteI (fun h => ?_) fun h => ?_) <;> clear a b A B))
        all_goals simp only [go_sem]
        all_goals exact ⟨_, rfl, fun h => absurd h hz.out⟩
      · refine EvV.walk rfl fn30 rfl nt30 rfl ?_
        simp only [List.length_cons, List.length_nil, List.cons_append, List.nil_append, Nat.reduceAdd, Nat.reduceSub, List.replicate]
        repeat' (first | refine go1 ?_ | refine blockK_else rfl ?_ | (refine go2 fun A B a b => ?_; simp only [go_sem, *, encD, encN, c1, c2, c3, s1, s2, s3, i0, k1, k2, k3, k4, k5, iy, k6, k7, qt, lenK_sls ht, List.length_map, set_lenAdd, Nat.zero_le, getElem?_len, getElem?_lenAdd, set_len, List.append_assoc, List.length_append, lenK_str, snap_sl, rowsOf_sl, ints_len, ints_take, List.take_length, Bool.true_or]; (repeat' first | apply a.1 | apply b.1 | refine iteI (fun h => ?_) fun h => ?_) <;> clear a b A B))
        all_goals simp only [go_sem]
        all_goals exact ⟨_, rfl, fun h => absurd h hz.out⟩
  rcases prev with ⟨k5, y, hy, iy⟩ | ⟨k5, hy⟩
  · by_cases k6 : n.id ≤ y.id
    · clear fin tailH
      refine EvV.walk rfl fn30 rfl nt30 rfl ?_
      simp only [List.length_cons, List.length_nil, List.cons_append, List.nil_append, Nat.reduceAdd, Nat.reduceSub, List.replicate]
      repeat' (first | refine go1 ?_ | refine blockK_else rfl ?_ | (refine go2 fun A B a b => ?_; simp only [go_sem, *, encD, encN, c1, c2, c3, i0, k1, k2, k5, iy, k6, set_lenAdd, Nat.zero_le, getElem?_len, getElem?_lenAdd, set_len, List.append_assoc, List.length_append, List.length_map, lenK_str, snap_sl, rowsOf_sl, ints_len, ints_take, List.take_length, Bool.true_or]; (repeat' first | apply a.1 | apply b.1 | refine iteI (fun h => ?_) fun h => ?_) <;> clear a b A B))
      all_goals simp only [go_sem]
      all_goals exact ⟨_, rfl, fun h => by cases h⟩
    · exact fin (fun z hz => by rw [hy] at hz; injection hz with hz; subst hz; omega) (.inr ⟨k5, y, iy, k6⟩)
  · exact fin (fun z hz => by rw [hy] at hz; cases hz) (.inl k5)

/- Rebuilds: siblings, as the reference tells them. -/
open Go.Proofs
attribute [local go_sem] List.replicate Nat.one_mul Nat.reduceMul Nat.zero_mul appK bslA fz90 fz91 lenK_esl lenK_nils lenK_sl lenK_tsl nilsK rowsFill rowsOf_esl rowsOf_nils rowsOf_sl rowsOf_tsl ty126 fz93 fz94
set_option maxHeartbeats 4000000
set_option maxRecDepth 20000

theorem sibs_snoc (l : List Nt) (x : Nt) (ti pa : Int) : sibs (l ++ [x]) ti pa = sibs l ti pa ++ (if (x.ti == ti && x.pa == pa) = true then [x] else []) := by
  unfold sibs; rw [List.filter_append]; congr 1
  simp only [List.filter_cons, List.filter_nil]
theorem sibs_len (l : List Nt) (ti pa : Int) : (sibs l ti pa).length ≤ l.length := List.length_filter_le _ _

theorem sibE {d : Dc} {ts : List Ti} {ns : List Nt} (ti pa : Int) (hd : d.ok ts ns) (hl : ns.length ≤ 1000) : EvV CX 45 [.agg (encD d), .int .i64 ti, .int .i64 pa] (· = .osl 7 ((sibs ns ti pa).map encN)) := by
  have c1 := hd.nc
  have c2 := hd.tc
  have c3 := hd.sc
  have p1 := hd.p1
  have p2 := hd.p2
  have p3 := hd.p3
  have hn := hd.n
  refine EvV.walk rfl fn45 rfl nt45 rfl ?_
  simp only [List.length_cons, List.length_nil, List.cons_append, List.nil_append, Nat.reduceAdd, Nat.reduceSub, List.replicate]
  repeat' (first | refine go1 ?_ | refine blockK_else rfl ?_ | (refine go2 fun A B a b => ?_; simp only [go_sem, *, wpK_append ty26 rfl, wpK_assignN ty26 rfl, wpK_buildSlice ty26 rfl, encD, c1, c2, c3, p1, p2, p3]; (repeat' first | apply a.1 | apply b.1 | refine iteI (fun h => ?_) fun h => ?_) <;> clear a b A B))
  refine wpC_loopF [10, 11, 12, 13, 14, 15, 16, 17, 18, 19, 20, 21, 22, 23, 24, 25, 26, 27, 28, 29, 30, 31, 32, 33, 34, 35, 36, 37, 38, 39, 40, 41, 42] (fun p : List Nt × List Nt => [(7, .sl 2 (sibs p.1 ti pa).length 0 (sibs p.1 ti pa).length 7), (8, .int .i64 (p.1.length : Int))]) (fun p G => .arr [encD d] 7 0 true :: .arr [] 7 0 true :: .arr ((sibs p.1 ti pa).map encN) 7 0 true :: G) (fun p => ns = p.1 ++ p.2) (fun p => p.2.length) ([], ns) rfl ?_ ⟨[], rfl⟩ ?_
  · ((try simp only [eraseA_cons, eraseA_nil, setL_cons, setL_nil, List.set_cons_zero, List.set_cons_succ]); all_goals (first | rfl | (simp only [len_snoc, ints_len, List.length_map, ]; done) | (simp only [len_snoc, len_mid, ints_len, List.length_map, List.length_append, List.length_cons, List.length_nil, Nat.zero_add, ]; first | done | rfl)))
  rintro ⟨pre, post⟩ g G h1
  replace h1 : ns = pre ++ post := h1
  cases post with
  | nil =>
    rw [List.append_nil] at h1
    subst h1
    obtain ⟨L, hL⟩ : ∃ L, sibs ns ti pa = L := ⟨_, rfl⟩
    simp only [hL]
    clear hL
    simp only [garbA_cons, garbA_nil, setL_cons, setL_nil, List.set_cons_zero, List.set_cons_succ]
    repeat' (first | refine go1 ?_ | refine blockK_else rfl ?_ | (refine go2 fun A B a b => ?_; simp only [go_sem, *, wpK_append ty26 rfl, wpK_assignN ty26 rfl, wpK_buildSlice ty26 rfl, encD, lenK_sls hn, List.length_map, Int.lt_irrefl, set_lenAdd, Nat.zero_le, getElem?_len, getElem?_lenAdd, set_len, List.append_assoc, List.length_append, lenK_str, snap_sl, ints_len, ints_take, List.take_length, Bool.true_or]; (repeat' first | apply a.1 | apply b.1 | refine iteI (fun h => ?_) fun h => ?_) <;> clear a b A B))
    simp only [go_sem, wpK_append ty26 rfl, wpK_assignN ty26 rfl, wpK_buildSlice ty26 rfl, List.length_map, set_lenAdd, Nat.zero_le, getElem?_len, getElem?_lenAdd, set_len, List.append_assoc, List.length_append, lenK_str, snap_sl, ints_len, ints_take, List.take_length, Bool.true_or]
  | cons x post =>
    have hpl : pre.length < ns.length := by rw [h1]; simp
    have lt1 : (pre.length : Int) < (ns.length : Int) := by omega
    have w1 := wrap_succ (n := pre.length) (by omega)
    have i1 := idx_sls hn (X := CX) ty26 ty40 rfl (n := pre.length) (row := encN x) (k := .i64) (by rw [h1]; exact map_midV encN pre x post)
    have hh1 : Hold (ns = (pre ++ [x]) ++ post) := ⟨by rw [h1]; simp⟩
    have hs := sibs_snoc pre x ti pa
    have hL1 := sibs_len pre ti pa
    obtain ⟨L, hL⟩ : ∃ L, sibs pre ti pa = L := ⟨_, rfl⟩
    rw [hL] at hs hL1
    simp only [hL]
    have b1 : (L.length + 1) * 64 ≤ 140737488355328 := by omega
    have b2 : L.length + 1 ≤ 140737488355328 := by omega
    clear h1 hpl hL hL1
    cases k1 : (x.ti == ti) with
    | false =>
      rw [k1, Bool.false_and, if_neg (by simp), List.append_nil] at hs
      have hsH : Hold (sibs (pre ++ [x]) ti pa = L) := ⟨hs⟩
      clear hs
      simp only [garbA_cons, garbA_nil, setL_cons, setL_nil, List.set_cons_zero, List.set_cons_succ]
      repeat' (first | refine go1 ?_ | refine blockK_else rfl ?_ | (refine go2 fun A B a b => ?_; simp only [go_sem, *, wpK_append ty26 rfl, wpK_assignN ty26 rfl, wpK_buildSlice ty26 rfl, encD, encN, lenK_sls hn, List.length_map, lt1, w1, i1, k1, set_lenAdd, Nat.zero_le, getElem?_len, getElem?_lenAdd, set_len, List.append_assoc, List.length_append, lenK_str, snap_sl, ints_len, ints_take, List.take_length, Bool.true_or]; (repeat' first | apply a.1 | apply b.1 | refine iteI (fun h => ?_) fun h => ?_) <;> clear a b A B))
      refine loopF_next (pre ++ [x], post) (Nat.lt_succ_self _) hh1.out ?_ ?_
      · ((try simp only [eraseA_cons, eraseA_nil, setL_cons, setL_nil, List.set_cons_zero, List.set_cons_succ]); all_goals (first | rfl | (simp only [len_snoc, ints_len, List.length_map, hsH.out]; done) | (simp only [len_snoc, len_mid, ints_len, List.length_map, List.length_append, List.length_cons, List.length_nil, Nat.zero_add, hsH.out]; first | done | rfl)))
      · rw [hsH.out]; exact ⟨_, rfl⟩
    | true =>
      cases k2 : (x.pa == pa) with
      | false =>
        rw [k1, k2, Bool.and_false, if_neg (by simp), List.append_nil] at hs
        have hsH : Hold (sibs (pre ++ [x]) ti pa = L) := ⟨hs⟩
        clear hs
        simp only [garbA_cons, garbA_nil, setL_cons, setL_nil, List.set_cons_zero, List.set_cons_succ]
        repeat' (first | refine go1 ?_ | refine blockK_else rfl ?_ | (refine go2 fun A B a b => ?_; simp only [go_sem, *, wpK_append ty26 rfl, wpK_assignN ty26 rfl, wpK_buildSlice ty26 rfl, encD, encN, lenK_sls hn, List.length_map, lt1, w1, i1, k1, k2, set_lenAdd, Nat.zero_le, getElem?_len, getElem?_lenAdd, set_len, List.append_assoc, List.length_append, lenK_str, snap_sl, ints_len, ints_take, List.take_length, Bool.true_or]; (repeat' first | apply a.1 | apply b.1 | refine iteI (fun h => ?_) fun h => ?_) <;> clear a b A B))
        refine loopF_next (pre ++ [x], post) (Nat.lt_succ_self _) hh1.out ?_ ?_
        · ((try simp only [eraseA_cons, eraseA_nil, setL_cons, setL_nil, List.set_cons_zero, List.set_cons_succ]); all_goals (first | rfl | (simp only [len_snoc, ints_len, List.length_map, hsH.out]; done) | (simp only [len_snoc, len_mid, ints_len, List.length_map, List.length_append, List.length_cons, List.length_nil, Nat.zero_add, hsH.out]; first | done | rfl)))
        · rw [hsH.out]; exact ⟨_, rfl⟩
      | true =>
        rw [k1, k2, Bool.and_true, if_pos rfl] at hs
        have hsH : Hold (sibs (pre ++ [x]) ti pa = L ++ [x]) := ⟨hs⟩
        clear hs
        simp only [garbA_cons, garbA_nil, setL_cons, setL_nil, List.set_cons_zero, List.set_cons_succ]
        repeat' (first | refine go1 ?_ | refine blockK_else rfl ?_ | (refine go2 fun A B a b => ?_; simp only [go_sem, *, wpK_append ty26 rfl, wpK_assignN ty26 rfl, wpK_buildSlice ty26 rfl, encD, encN, lenK_sls hn, List.length_map, lt1, w1, i1, k1, k2, b1, b2, set_lenAdd, Nat.zero_le, getElem?_len, getElem?_lenAdd, set_len, List.append_assoc, List.length_append, lenK_str, snap_sl, ints_len, ints_take, List.take_length, Bool.true_or]; (repeat' first | apply a.1 | apply b.1 | refine iteI (fun h => ?_) fun h => ?_) <;> clear a b A B))
        refine loopF_next (pre ++ [x], post) (Nat.lt_succ_self _) hh1.out ?_ ?_
        · ((try simp only [eraseA_cons, eraseA_nil, setL_cons, setL_nil, List.set_cons_zero, List.set_cons_succ]); all_goals (first | rfl | (simp only [len_snoc, ints_len, List.length_map, hsH.out]; done) | (simp only [len_snoc, len_mid, ints_len, List.length_map, List.length_append, List.length_cons, List.length_nil, Nat.zero_add, hsH.out]; first | done | rfl)))
        · rw [hsH.out, List.map_append]; exact ⟨_, rfl⟩

theorem spansE {v : AV} {l : List Nt} (hv : SLs 7 (l.map encN) v) (hl : l.length ≤ 1000) : EvV CX 49 [v] (· = .osl 2 (Fo.spans (l.map fun n => (n.fr, n.en)))) := by
  have c1 := hv.cell
  refine EvV.walk rfl fn49 rfl nt49 rfl ?_
  simp only [List.length_cons, List.length_nil, List.cons_append, List.nil_append, Nat.reduceAdd, Nat.reduceSub, List.replicate]
  repeat' (first | refine go1 ?_ | refine blockK_else rfl ?_ | (refine go2 fun A B a b => ?_; simp only [go_sem, *, wpK_append ty126 rfl, wpK_assignN ty126 rfl, wpK_buildSlice ty126 rfl]; (repeat' first | apply a.1 | apply b.1 | refine iteI (fun h => ?_) fun h => ?_) <;> clear a b A B))
  refine wpC_loopF [6, 7, 8, 9, 10, 11, 12, 13, 14, 15, 16, 17, 18, 19] (fun p : List Nt × List Nt => [(3, .sl 1 p.1.length 0 p.1.length 2), (4, .int .i64 (p.1.length : Int))]) (fun p G => .arr [] 2 0 true :: .arr (Fo.spans (p.1.map fun n => (n.fr, n.en))) 2 0 true :: G) (fun p => l = p.1 ++ p.2) (fun p => p.2.length) ([], l) rfl ?_ ⟨[], rfl⟩ ?_
  · ((try simp only [eraseA_cons, eraseA_nil, setL_cons, setL_nil, List.set_cons_zero, List.set_cons_succ]); all_goals (first | rfl | (simp only [len_snoc, ints_len, List.length_map, ]; done) | (simp only [len_snoc, len_mid, ints_len, List.length_map, List.length_append, List.length_cons, List.length_nil, Nat.zero_add, ]; first | done | rfl)))
  rintro ⟨pre, post⟩ g G h1
  replace h1 : l = pre ++ post := h1
  cases post with
  | nil =>
    rw [List.append_nil] at h1
    subst h1
    simp only [garbA_cons, garbA_nil, setL_cons, setL_nil, List.set_cons_zero, List.set_cons_succ]
    repeat' (first | refine go1 ?_ | refine blockK_else rfl ?_ | (refine go2 fun A B a b => ?_; simp only [go_sem, *, wpK_append ty126 rfl, wpK_assignN ty126 rfl, wpK_buildSlice ty126 rfl, lenK_sls hv, List.length_map, Int.lt_irrefl, set_lenAdd, Nat.zero_le, getElem?_len, getElem?_lenAdd, set_len, List.append_assoc, List.length_append, lenK_str, snap_sl, ints_len, ints_take, List.take_length, Bool.true_or]; (repeat' first | apply a.1 | apply b.1 | refine iteI (fun h => ?_) fun h => ?_) <;> clear a b A B))
    simp only [go_sem, wpK_append ty126 rfl, wpK_assignN ty126 rfl, wpK_buildSlice ty126 rfl, List.length_map, Fo.spans_len, set_lenAdd, Nat.zero_le, getElem?_len, getElem?_lenAdd, set_len, List.append_assoc, List.length_append, lenK_str, snap_sl, ints_len, ints_take, List.take_length, Bool.true_or]
  | cons x post =>
    have hpl : pre.length < l.length := by rw [h1]; simp
    have lt1 : (pre.length : Int) < (l.length : Int) := by omega
    have w1 := wrap_succ (n := pre.length) (by omega)
    have i1 := idx_sls hv (X := CX) ty26 ty40 rfl (n := pre.length) (row := encN x) (k := .i64) (by rw [h1]; exact map_midV encN pre x post)
    have hh1 : Hold (l = (pre ++ [x]) ++ post) := ⟨by rw [h1]; simp⟩
    have b1 : (pre.length + 1) * 16 ≤ 140737488355328 := by omega
    have b2 : pre.length + 1 ≤ 140737488355328 := by omega
    have hS : Hold (Fo.spans ((pre ++ [x]).map fun n => (n.fr, n.en)) = Fo.spans (pre.map fun n => (n.fr, n.en)) ++ [[.int .i64 x.fr, .int .i64 x.en]]) := ⟨by simp [Fo.spans, Fo.encE]⟩
    clear h1 hpl
    simp only [garbA_cons, garbA_nil, setL_cons, setL_nil, List.set_cons_zero, List.set_cons_succ]
    repeat' (first | refine go1 ?_ | refine blockK_else rfl ?_ | (refine go2 fun A B a b => ?_; simp only [go_sem, *, wpK_append ty126 rfl, wpK_assignN ty126 rfl, wpK_buildSlice ty126 rfl, encN, lenK_sls hv, List.length_map, lt1, w1, i1, b1, b2, Fo.spans_len, set_lenAdd, Nat.zero_le, getElem?_len, getElem?_lenAdd, set_len, List.append_assoc, List.length_append, lenK_str, snap_sl, ints_len, ints_take, List.take_length, Bool.true_or]; (repeat' first | apply a.1 | apply b.1 | refine iteI (fun h => ?_) fun h => ?_) <;> clear a b A B))
    refine loopF_next (pre ++ [x], post) (Nat.lt_succ_self _) hh1.out ?_ ?_
    · ((try simp only [eraseA_cons, eraseA_nil, setL_cons, setL_nil, List.set_cons_zero, List.set_cons_succ]); all_goals (first | rfl | (simp only [len_snoc, ints_len, List.length_map, ]; done) | (simp only [len_snoc, len_mid, ints_len, List.length_map, List.length_append, List.length_cons, List.length_nil, Nat.zero_add, ]; first | done | rfl)))
    · rw [hS.out]; exact ⟨_, rfl⟩

theorem overlapE {v : AV} {l : List Nt} (hv : SLs 7 (l.map encN) v) (hl : l.length ≤ 1000) : ∃ b, (b = false → l.Pairwise Apart) ∧ EvV CX 47 [v] (· = .bool b) := by
  suffices h : EvV CX 47 [v] (fun r => ∃ b, r = .bool b ∧ (b = false → l.Pairwise Apart)) by
    obtain ⟨r, ⟨b, rfl, hb⟩, h⟩ := h.ex
    exact ⟨b, hb, h⟩
  refine EvV.walk rfl fn47 rfl nt47 rfl ?_
  simp only [List.length_cons, List.length_nil, List.cons_append, List.nil_append, Nat.reduceAdd, Nat.reduceSub, List.replicate]
  repeat' (first | refine go1 ?_ | refine blockK_else rfl ?_ | (refine go2 fun A B a b => ?_; simp only [go_sem, *]; (repeat' first | apply a.1 | apply b.1 | refine iteI (fun h => ?_) fun h => ?_) <;> clear a b A B))
  refine wpC_each [2, 4, 5, 6, 7, 8, 9, 10, 11, 12, 13, 14, 15, 16, 17, 18, 19, 20, 21, 22, 23, 24, 25, 26, 27, 28, 29, 30, 31, 32, 33, 34, 35, 36, 37, 38, 39, 40, 41, 42, 43] 3 l (fun pre _ => pre.Pairwise Apart) ?_ ?_ ?_ ?_
  · exact .nil
  · ((try simp only [eraseA_cons, eraseA_nil, setL_cons, setL_nil, List.set_cons_zero, List.set_cons_succ]); all_goals (first | rfl | (simp only [len_snoc, ints_len, List.length_map, ]; done) | (simp only [len_snoc, len_mid, ints_len, List.length_map, List.length_append, List.length_cons, List.length_nil, Nat.zero_add, ]; first | done | rfl)))
  · intro g G hP
    have hPH : Hold (l.Pairwise Apart) := ⟨hP⟩
    clear hP
    simp only [garbA_cons, garbA_nil, setL_cons, setL_nil, List.set_cons_zero, List.set_cons_succ]
    repeat' (first | refine go1 ?_ | refine blockK_else rfl ?_ | (refine go2 fun A B a b => ?_; simp only [go_sem, *, lenK_sls hv, List.length_map, Int.lt_irrefl]; (repeat' first | apply a.1 | apply b.1 | refine iteI (fun h => ?_) fun h => ?_) <;> clear a b A B))
    simp only [go_sem]
    exact ⟨_, rfl, fun _ => hPH.out⟩
  · intro g G pre x post h1 hP
    have hPH : Hold (pre.Pairwise Apart) := ⟨hP⟩
    have hpl : pre.length < l.length := by rw [h1]; simp
    have lt1 : (pre.length : Int) < (l.length : Int) := by omega
    have w1 := wrap_succ (n := pre.length) (by omega)
    have i1 := idx_sls hv (X := CX) ty26 ty40 rfl (n := pre.length) (row := encN x) (k := .i64) (by rw [h1]; exact map_midV encN pre x post)
    have hh1 : Hold (l = pre ++ x :: post) := ⟨h1⟩
    have hlH : Hold (l.length ≤ 1000) := ⟨hl⟩
    have hvH : Hold (∀ (a : List Nt) y b, pre = a ++ y :: b → indexAddrA CX 26 v (.int .i64 a.length) = some (.tptr (stOf v) (encN y) 0)) := ⟨fun a y b hab => idx_sls hv (X := CX) ty26 ty40 rfl (by rw [h1, hab]; simp)⟩
    have hpH : Hold (pre.length < 1000) := ⟨by omega⟩
    clear h1 hP hpl hl
    simp only [garbA_cons, garbA_nil, setL_cons, setL_nil, List.set_cons_zero, List.set_cons_succ]
    repeat' (first | refine go1 ?_ | refine blockK_else rfl ?_ | (refine go2 fun A B a b => ?_; simp only [go_sem, *, lenK_sls hv, List.length_map, lt1]; (repeat' first | apply a.1 | apply b.1 | refine iteI (fun h => ?_) fun h => ?_) <;> clear a b A B))
    refine wpC_each [2, 11, 12, 13, 14, 15, 16, 17, 18, 19, 20, 21, 22, 23, 24, 25, 26, 27, 28, 29, 30, 31, 32, 33, 34, 35, 36, 37, 38, 39, 40, 41, 42, 43] 4 pre (fun a _ => ∀ y ∈ a, Apart y x) ?_ ?_ ?_ ?_
    · intro y h; cases h
    · ((try simp only [eraseA_cons, eraseA_nil, setL_cons, setL_nil, List.set_cons_zero, List.set_cons_succ]); all_goals (first | rfl | (simp only [len_snoc, ints_len, List.length_map, ]; done) | (simp only [len_snoc, len_mid, ints_len, List.length_map, List.length_append, List.length_cons, List.length_nil, Nat.zero_add, ]; first | done | rfl)))
    · intro g2 G2 hA
      have hAH : Hold (∀ y ∈ pre, Apart y x) := ⟨hA⟩
      clear hA
      simp only [garbA_cons, garbA_nil, setL_cons, setL_nil, List.set_cons_zero, List.set_cons_succ]
      repeat' (first | refine go1 ?_ | refine blockK_else rfl ?_ | (refine go2 fun A B a b => ?_; simp only [go_sem, *, lenK_sls hv, List.length_map, lt1, w1, Int.lt_irrefl]; (repeat' first | apply a.1 | apply b.1 | refine iteI (fun h => ?_) fun h => ?_) <;> clear a b A B))
      refine each_next hh1.out ?_ ?_ ?_
      · rw [List.pairwise_append]
        exact ⟨hPH.out, by simp, fun a ha b hb => by simp at hb; subst hb; exact hAH.out a ha⟩
      · ((try simp only [eraseA_cons, eraseA_nil, setL_cons, setL_nil, List.set_cons_zero, List.set_cons_succ]); all_goals (first | rfl | (simp only [len_snoc, ints_len, List.length_map, ]; done) | (simp only [len_snoc, len_mid, ints_len, List.length_map, List.length_append, List.length_cons, List.length_nil, Nat.zero_add, ]; first | done | rfl)))
      · first | exact ⟨[], (List.append_nil _).symm⟩ | exact ⟨_, rfl⟩ | (simp only [List.append_assoc, List.cons_append, List.nil_append]; exact ⟨_, rfl⟩)
    · intro g2 G2 a y b h2 hA
      have hAH : Hold (∀ y ∈ a, Apart y x) := ⟨hA⟩
      have hal : a.length < pre.length := by rw [h2]; simp
      have lt2 : (a.length : Int) < (pre.length : Int) := by omega
      have w2 := wrap_succ (n := a.length) (by have := hpH.out; omega)
      have i2 := hvH.out a y b h2
      have hh2 : Hold (pre = a ++ y :: b) := ⟨h2⟩
      clear h2 hA hal
      by_cases k1 : x.fr < y.en
      · by_cases k2 : y.fr < x.en
        · simp only [garbA_cons, garbA_nil, setL_cons, setL_nil, List.set_cons_zero, List.set_cons_succ]
          repeat' (first | refine go1 ?_ | refine blockK_else rfl ?_ | (refine go2 fun A B a b => ?_; simp only [go_sem, *, lenK_sls hv, List.length_map, lt2, i1, i2, encN, k1, k2, set_lenAdd, Nat.zero_le, getElem?_len, getElem?_lenAdd, set_len, List.append_assoc, List.length_append, lenK_str, snap_sl, ints_len, ints_take, List.take_length, Bool.true_or]; (repeat' first | apply a.1 | apply b.1 | refine iteI (fun h => ?_) fun h => ?_) <;> clear a b A B))
          simp only [go_sem]
          exact ⟨_, rfl, fun h => by cases h⟩
        · have hx : Hold (Apart y x) := ⟨fun h => k2 h.1⟩
          simp only [garbA_cons, garbA_nil, setL_cons, setL_nil, List.set_cons_zero, List.set_cons_succ]
          repeat' (first | refine go1 ?_ | refine blockK_else rfl ?_ | (refine go2 fun A B a b => ?_; simp only [go_sem, *, lenK_sls hv, List.length_map, lt2, i1, i2, encN, k1, k2, w2, set_lenAdd, Nat.zero_le, getElem?_len, getElem?_lenAdd, set_len, List.append_assoc, List.length_append, lenK_str, snap_sl, ints_len, ints_take, List.take_length, Bool.true_or]; (repeat' first | apply a.1 | apply b.1 | refine iteI (fun h => ?_) fun h => ?_) <;> clear a b A B))
          refine each_next hh2.out ?_ ?_ ?_
          · intro z hz
            rcases List.mem_append.1 hz with h | h
            · exact hAH.out z h
            · simp at h; subst h; exact hx.out
          · ((try simp only [eraseA_cons, eraseA_nil, setL_cons, setL_nil, List.set_cons_zero, List.set_cons_succ]); all_goals (first | rfl | (simp only [len_snoc, ints_len, List.length_map, ]; done) | (simp only [len_snoc, len_mid, ints_len, List.length_map, List.length_append, List.length_cons, List.length_nil, Nat.zero_add, ]; first | done | rfl)))
          · first | exact ⟨[], (List.append_nil _).symm⟩ | exact ⟨_, rfl⟩ | (simp only [List.append_assoc, List.cons_append, List.nil_append]; exact ⟨_, rfl⟩)
      · have hx : Hold (Apart y x) := ⟨fun h => k1 h.2⟩
        simp only [garbA_cons, garbA_nil, setL_cons, setL_nil, List.set_cons_zero, List.set_cons_succ]
        repeat' (first | refine go1 ?_ | refine blockK_else rfl ?_ | (refine go2 fun A B a b => ?_; simp only [go_sem, *, lenK_sls hv, List.length_map, lt2, i1, i2, encN, k1, w2, set_lenAdd, Nat.zero_le, getElem?_len, getElem?_lenAdd, set_len, List.append_assoc, List.length_append, lenK_str, snap_sl, ints_len, ints_take, List.take_length, Bool.true_or]; (repeat' first | apply a.1 | apply b.1 | refine iteI (fun h => ?_) fun h => ?_) <;> clear a b A B))
        refine each_next hh2.out ?_ ?_ ?_
        · intro z hz
          rcases List.mem_append.1 hz with h | h
          · exact hAH.out z h
          · simp at h; subst h; exact hx.out
        · ((try simp only [eraseA_cons, eraseA_nil, setL_cons, setL_nil, List.set_cons_zero, List.set_cons_succ]); all_goals (first | rfl | (simp only [len_snoc, ints_len, List.length_map, ]; done) | (simp only [len_snoc, len_mid, ints_len, List.length_map, List.length_append, List.length_cons, List.length_nil, Nat.zero_add, ]; first | done | rfl)))
        · first | exact ⟨[], (List.append_nil _).symm⟩ | exact ⟨_, rfl⟩ | (simp only [List.append_assoc, List.cons_append, List.nil_append]; exact ⟨_, rfl⟩)

theorem rankedE {v : AV} {l : List Nt} (hv : SLs 7 (l.map encN) v) (hl : l.length ≤ 1000) : ∃ b, (b = true → ∀ k : Nat, k < l.length → ∃ x ∈ l, x.rk = k) ∧ EvV CX 50 [v] (· = .bool b) := by
  suffices h : EvV CX 50 [v] (fun r => ∃ b, r = .bool b ∧ (b = true → ∀ k : Nat, k < l.length → ∃ x ∈ l, x.rk = k)) by
    obtain ⟨r, ⟨b, rfl, hb⟩, h⟩ := h.ex
    exact ⟨b, hb, h⟩
  have hlH : Hold (l.length ≤ 1000) := ⟨hl⟩
  clear hl
  refine EvV.walk rfl fn50 rfl nt50 rfl ?_
  simp only [List.length_cons, List.length_nil, List.cons_append, List.nil_append, Nat.reduceAdd, Nat.reduceSub, List.replicate]
  repeat' (first | refine go1 ?_ | refine blockK_else rfl ?_ | (refine go2 fun A B a b => ?_; simp only [go_sem, *]; (repeat' first | apply a.1 | apply b.1 | refine iteI (fun h => ?_) fun h => ?_) <;> clear a b A B))
  refine wpC_each [2, 4, 5, 6, 7, 8, 9, 10, 11, 12, 13, 14, 15, 16, 17, 18, 19, 20, 21, 22, 23, 24, 25, 26, 27, 28, 29] 3 l (fun pre _ => ∀ k : Nat, k < pre.length → ∃ x ∈ l, x.rk = k) ?_ ?_ ?_ ?_
  · intro k h; simp at h
  · ((try simp only [eraseA_cons, eraseA_nil, setL_cons, setL_nil, List.set_cons_zero, List.set_cons_succ]); all_goals (first | rfl | (simp only [len_snoc, ints_len, List.length_map, ]; done) | (simp only [len_snoc, len_mid, ints_len, List.length_map, List.length_append, List.length_cons, List.length_nil, Nat.zero_add, ]; first | done | rfl)))
  · intro g G hP
    have hPH : Hold (∀ k : Nat, k < l.length → ∃ x ∈ l, x.rk = k) := ⟨hP⟩
    clear hP
    simp only [garbA_cons, garbA_nil, setL_cons, setL_nil, List.set_cons_zero, List.set_cons_succ]
    repeat' (first | refine go1 ?_ | refine blockK_else rfl ?_ | (refine go2 fun A B a b => ?_; simp only [go_sem, *, lenK_sls hv, List.length_map, Int.lt_irrefl]; (repeat' first | apply a.1 | apply b.1 | refine iteI (fun h => ?_) fun h => ?_) <;> clear a b A B))
    simp only [go_sem]
    exact ⟨_, rfl, fun _ => hPH.out⟩
  · intro g G pre x post h1 hP
    have hPH : Hold (∀ k : Nat, k < pre.length → ∃ x ∈ l, x.rk = k) := ⟨hP⟩
    have hpl : pre.length < l.length := by rw [h1]; simp
    have lt1 : (pre.length : Int) < (l.length : Int) := by omega
    have w1 := wrap_succ (n := pre.length) (by have := hlH.out; omega)
    have hh1 : Hold (l = pre ++ x :: post) := ⟨h1⟩
    clear h1 hP hpl
    simp only [garbA_cons, garbA_nil, setL_cons, setL_nil, List.set_cons_zero, List.set_cons_succ]
    repeat' (first | refine go1 ?_ | refine blockK_else rfl ?_ | (refine go2 fun A B a b => ?_; simp only [go_sem, *, lenK_sls hv, List.length_map, lt1]; (repeat' first | apply a.1 | apply b.1 | refine iteI (fun h => ?_) fun h => ?_) <;> clear a b A B))
    refine wpC_eachE [12, 13, 14, 15, 16, 17, 18, 19, 20, 21, 22, 23, 24, 25, 26, 27] 5 (fun a => [(4, .bool (a.any fun y => y.rk == (pre.length : Int)))]) l (fun _ _ => True) trivial ?_ ?_ ?_
    · ((try simp only [eraseA_cons, eraseA_nil, setL_cons, setL_nil, List.set_cons_zero, List.set_cons_succ]); all_goals (first | rfl | (simp only [len_snoc, ints_len, List.length_map, ]; done) | (simp only [len_snoc, len_mid, ints_len, List.length_map, List.length_append, List.length_cons, List.length_nil, Nat.zero_add, ]; first | done | rfl)))
    · intro g2 G2 _
      cases ka : (l.any fun y => y.rk == (pre.length : Int)) with
      | false =>
        simp only [garbA_cons, garbA_nil, setL_cons, setL_nil, List.set_cons_zero, List.set_cons_succ]
        repeat' (first | refine go1 ?_ | refine blockK_else rfl ?_ | (refine go2 fun A B a b => ?_; simp only [go_sem, *, lenK_sls hv, List.length_map, Int.lt_irrefl]; (repeat' first | apply a.1 | apply b.1 | refine iteI (fun h => ?_) fun h => ?_) <;> clear a b A B))
        simp only [go_sem]
        exact ⟨_, rfl, fun h => by cases h⟩
      | true =>
        have hx : Hold (∃ y ∈ l, y.rk = (pre.length : Int)) := ⟨by simpa using ka⟩
        clear ka
        simp only [garbA_cons, garbA_nil, setL_cons, setL_nil, List.set_cons_zero, List.set_cons_succ]
        repeat' (first | refine go1 ?_ | refine blockK_else rfl ?_ | (refine go2 fun A B a b => ?_; simp only [go_sem, *, lenK_sls hv, List.length_map, lt1, w1, Int.lt_irrefl]; (repeat' first | apply a.1 | apply b.1 | refine iteI (fun h => ?_) fun h => ?_) <;> clear a b A B))
        refine each_next hh1.out ?_ ?_ ?_
        · intro k hk
          rw [List.length_append] at hk
          by_cases hkp : k < pre.length
          · exact hPH.out k hkp
          · have : k = pre.length := by simp at hk; omega
            rw [this]; exact hx.out
        · ((try simp only [eraseA_cons, eraseA_nil, setL_cons, setL_nil, List.set_cons_zero, List.set_cons_succ]); all_goals (first | rfl | (simp only [len_snoc, ints_len, List.length_map, ]; done) | (simp only [len_snoc, len_mid, ints_len, List.length_map, List.length_append, List.length_cons, List.length_nil, Nat.zero_add, ]; first | done | rfl)))
        · first | exact ⟨[], (List.append_nil _).symm⟩ | exact ⟨_, rfl⟩ | (simp only [List.append_assoc, List.cons_append, List.nil_append]; exact ⟨_, rfl⟩)
    · intro g2 G2 a y b h2 _
      have hal : a.length < l.length := by rw [h2]; simp
      have lt2 : (a.length : Int) < (l.length : Int) := by omega
      have w2 := wrap_succ (n := a.length) (by have := hlH.out; omega)
      have i2 := idx_sls hv (X := CX) ty26 ty40 rfl (n := a.length) (row := encN y) (k := .i64) (by rw [h2]; exact map_midV encN a y b)
      have hh2 : Hold (l = a ++ y :: b) := ⟨h2⟩
      have hs : Hold (((a ++ [y]).any fun y => y.rk == (pre.length : Int)) = ((a.any fun y => y.rk == (pre.length : Int)) || (y.rk == (pre.length : Int)))) := ⟨by simp⟩
      clear h2 hal
      cases ka : (a.any fun y => y.rk == (pre.length : Int)) with
      | true =>
        rw [ka, Bool.true_or] at hs
        simp only [garbA_cons, garbA_nil, setL_cons, setL_nil, List.set_cons_zero, List.set_cons_succ]
        repeat' (first | refine go1 ?_ | refine blockK_else rfl ?_ | (refine go2 fun A B a b => ?_; simp only [go_sem, *, lenK_sls hv, List.length_map, lt2, w2, ka, set_lenAdd, Nat.zero_le, getElem?_len, getElem?_lenAdd, set_len, List.append_assoc, List.length_append, lenK_str, snap_sl, ints_len, ints_take, List.take_length, Bool.true_or]; (repeat' first | apply a.1 | apply b.1 | refine iteI (fun h => ?_) fun h => ?_) <;> clear a b A B))
        refine each_next hh2.out trivial ?_ ?_
        · ((try simp only [eraseA_cons, eraseA_nil, setL_cons, setL_nil, List.set_cons_zero, List.set_cons_succ]); all_goals (first | rfl | (simp only [len_snoc, ints_len, List.length_map, hs.out]; done) | (simp only [len_snoc, len_mid, ints_len, List.length_map, List.length_append, List.length_cons, List.length_nil, Nat.zero_add, hs.out]; first | done | rfl)))
        · first | exact ⟨[], (List.append_nil _).symm⟩ | exact ⟨_, rfl⟩ | (simp only [List.append_assoc, List.cons_append, List.nil_append]; exact ⟨_, rfl⟩)
      | false =>
        rw [ka, Bool.false_or] at hs
        simp only [garbA_cons, garbA_nil, setL_cons, setL_nil, List.set_cons_zero, List.set_cons_succ]
        repeat' (first | refine go1 ?_ | refine blockK_else rfl ?_ | (refine go2 fun A B a b => ?_; simp only [go_sem, *, lenK_sls hv, List.length_map, lt2, w2, i2, encN, ka, set_lenAdd, Nat.zero_le, getElem?_len, getElem?_lenAdd, set_len, List.append_assoc, List.length_append, lenK_str, snap_sl, ints_len, ints_take, List.take_length, Bool.true_or]; (repeat' first | apply a.1 | apply b.1 | refine iteI (fun h => ?_) fun h => ?_) <;> clear a b A B))
        refine each_next hh2.out trivial ?_ ?_
        · ((try simp only [eraseA_cons, eraseA_nil, setL_cons, setL_nil, List.set_cons_zero, List.set_cons_succ]); all_goals (first | rfl | (simp only [len_snoc, ints_len, List.length_map, hs.out]; done) | (simp only [len_snoc, len_mid, ints_len, List.length_map, List.length_append, List.length_cons, List.length_nil, Nat.zero_add, hs.out]; first | done | rfl)))
        · first | exact ⟨[], (List.append_nil _).symm⟩ | exact ⟨_, rfl⟩ | (simp only [List.append_assoc, List.cons_append, List.nil_append]; exact ⟨_, rfl⟩)
end Go.Eng
