/- Loops over lists, and lists of numbers as values. -/
import Derived.Test.YtoeogoeahmlgnaaGreatDoorEngQ
set_option linter.all false
namespace Go.Eng
open Go.RowKit
set_option linter.unusedSimpArgs false
set_option linter.unusedVariables false
attribute [local irreducible] wpC wpO wp1 EvV EvR wpL
attribute [local go_sem] reduceIte Nat.reduceAdd Nat.reduceEqDiff Nat.reduceLT Nat.reduceLeDiff beq_iff_eq beq_eq_false_iff_ne Int.natCast_inj Bool.not_eq_false' op1_go wpK_box wpK_alloc wpK_load wpK_store wpK_binOp wpK_unOp wpK_fieldAddr wpK_field wpK_build wpK_indexAddr wpK_slice wpK_len wpK_extract wpK_nilCheck wpK_pick wpK_makeFunc wpK_call wpK_callT wpK_max wpK_min wpK_assignT wpK_moveT wpK_assignB wpK_moveB wpK_assignI wpK_moveI wpK_assignA wpK_moveA callK_fn snapL_nil snapL_cons snap_int snap_bool snap_str snap_tsl snap_agg snap_fn snap_flat adopt_int adopt_bool adopt_str adopt_agg adopt_osl adopt_tsl adopt_tup op1_guard grdK_bool grdK_undef condK_bool someK_some pairK_some nilK_ptr nilK_tptr boxK storeK evalA_tmp evalA_int evalA_bool evalA_agg evalA_fn evalA_nil ofC_int ofC_bool getA_zero getA_succ cells_int cells_agg cells_bool cells_sl cells_tsl cell_int cell_bool cell_str cell_sl cell_esl cell_tsl cell_ptr cell_tptr cell_fn cell_nils cell_nilf List.all_cons List.all_nil Bool.and_true Bool.and_self Bool.true_and putA_some putA_none List.set_cons_zero List.set_cons_succ List.length_cons List.length_nil List.nil_append List.cons_append stabL AV.stab fieldAddrA fieldA List.getElem?_cons_zero List.getElem?_cons_succ Nat.zero_add loadA rowOf Nat.le_refl and_self true_and and_true partA binA unA intBin eqBin eqCells eqCell Option.bind_some decide_true decide_false decide_eq_true_eq ite_not Bool.not_eq_true' decide_eq_false_iff_not Bool.false_eq_true Option.map_some Option.map_none Bool.not_true Bool.not_false buildA fillA patch List.take List.drop List.map_cons List.map_nil extK List.getD_cons_zero List.getD_cons_succ minmaxA minmaxGo adoptZ_false adoptZ_true freeze_int freeze_bool freeze_str freeze_flat freeze_agg freeze_osl freeze_tsl freeze_tup frz1_bool frz1_int frz1_str frz1_agg frz1_osl frz1_tsl bne Bool.false_and Bool.and_false ne_eq not_true_eq_false not_false_eq_true List.append_nil resultsR resultsL resultA expK_int expK_bool expK_str expK_agg expK_own expK_tsl resK_some wpK_lookup wpK_range wpK_next wpK_entry wpK_makeMap wpK_mapUpdate cell_mp

/-- The frame with some places written anew. -/
def setL (fr : List AV) (l : List (Nat × AV)) : List AV := l.foldl (fun fr p => fr.set p.1 p.2) fr
/-- The frame with some places wiped. -/
def eraseA (ix : List Nat) (fr : List AV) : List AV := ix.foldl (fun fr i => fr.set i .junk) fr
/-- The frame with some places filled with anything. -/
def garbA (ix : List Nat) (g : Nat → AV) (fr : List AV) : List AV := ix.foldl (fun fr i => fr.set i (g i)) fr

theorem setL_nil {fr : List AV} : setL fr [] = fr := rfl
theorem setL_cons {fr : List AV} {i : Nat} {v : AV} {l : List (Nat × AV)} : setL fr ((i, v) :: l) = setL (fr.set i v) l := rfl
theorem eraseA_nil {fr : List AV} : eraseA [] fr = fr := rfl
theorem eraseA_cons {fr : List AV} {i : Nat} {l : List Nat} : eraseA (i :: l) fr = eraseA l (fr.set i .junk) := rfl
theorem garbA_nil {fr : List AV} {g : Nat → AV} : garbA [] g fr = fr := rfl
theorem garbA_cons {fr : List AV} {g : Nat → AV} {i : Nat} {l : List Nat} : garbA (i :: l) g fr = garbA l g (fr.set i (g i)) := rfl

theorem eraseA_length : ∀ {ix : List Nat} {fr : List AV}, (eraseA ix fr).length = fr.length
  | [], _ => rfl
  | i :: l, fr => by rw [eraseA_cons, eraseA_length, List.length_set]
theorem garbA_length {g : Nat → AV} : ∀ {ix : List Nat} {fr : List AV}, (garbA ix g fr).length = fr.length
  | [], _ => rfl
  | i :: l, fr => by rw [garbA_cons, garbA_length, List.length_set]
theorem eraseA_get : ∀ {ix : List Nat} {fr : List AV} {j : Nat}, j ∉ ix → (eraseA ix fr)[j]? = fr[j]?
  | [], _, _, _ => rfl
  | i :: l, fr, j, h => by
    simp only [List.mem_cons, not_or] at h
    rw [eraseA_cons, eraseA_get h.2, List.getElem?_set_ne (fun e => h.1 e.symm)]
theorem garbA_get {g : Nat → AV} : ∀ {ix : List Nat} {fr : List AV} {j : Nat}, j ∉ ix → (garbA ix g fr)[j]? = fr[j]?
  | [], _, _, _ => rfl
  | i :: l, fr, j, h => by
    simp only [List.mem_cons, not_or] at h
    rw [garbA_cons, garbA_get h.2, List.getElem?_set_ne (fun e => h.1 e.symm)]
theorem garbA_in {g : Nat → AV} : ∀ {ix : List Nat} {fr : List AV} {j : Nat}, j ∈ ix → j < fr.length → (garbA ix g fr)[j]? = some (g j)
  | i :: l, fr, j, h, hj => by
    by_cases h2 : j ∈ l
    · rw [garbA_cons]; exact garbA_in h2 (by rw [List.length_set]; exact hj)
    · simp only [List.mem_cons, h2, or_false] at h
      subst h
      rw [garbA_cons, garbA_get h2, List.getElem?_set_self hj]

theorem garb_of_erase {ix : List Nat} {fr fr0 : List AV} (h : eraseA ix fr = eraseA ix fr0) : fr = garbA ix (getA fr) fr0 := by
  have hl : fr.length = fr0.length := by have := congrArg List.length h; rwa [eraseA_length, eraseA_length] at this
  apply List.ext_getElem?
  intro j
  by_cases hj : j ∈ ix
  · by_cases hjl : j < fr.length
    · rw [garbA_in hj (by omega), getA, List.getD_eq_getElem?_getD, List.getElem?_eq_getElem hjl]; rfl
    · rw [List.getElem?_eq_none (by omega), List.getElem?_eq_none (by rw [garbA_length]; omega)]
  · rw [garbA_get hj, ← eraseA_get hj (fr := fr), h, eraseA_get hj]

/-- What holds at the head of a loop. -/
def LJ {α : Type} (ix : List Nat) (fr0 : List AV) (F : α → List (Nat × AV)) (SS : α → Store → Store) (P : α → Prop) (a : α) (fr : List AV) (S : Store) : Prop :=
  P a ∧ eraseA ix fr = eraseA ix (setL fr0 (F a)) ∧ ∃ G, S = SS a G

theorem wpC_loopF {X : Ctx} {α : Type} {c : Code} {Q : Ex → List AV → Store → Prop} {fr0 : List AV} {S0 : Store} (ix : List Nat) (F : α → List (Nat × AV)) (SS : α → Store → Store) (P : α → Prop) (μ : α → Nat) (a0 : α)
    (h0 : P a0) (hF : eraseA ix fr0 = eraseA ix (setL fr0 (F a0))) (hS : ∃ G, S0 = SS a0 G)
    (h : ∀ a (g : Nat → AV) (G : Store), P a → wpC X c (loopK (LJ ix fr0 F SS P) μ a Q) (garbA ix g (setL fr0 (F a))) (SS a G)) : wpC X (.loop c) Q fr0 S0 := by
  refine wpC_loopG (LJ ix fr0 F SS P) μ a0 ⟨h0, hF, hS⟩ ?_
  rintro a fr S ⟨h1, h2, G, rfl⟩
  rw [garb_of_erase h2]
  exact h a _ _ h1

theorem loopF_next {α : Type} {ix : List Nat} {fr0 : List AV} {F : α → List (Nat × AV)} {SS : α → Store → Store} {P : α → Prop} {μ : α → Nat} {a : α} {Q : Ex → List AV → Store → Prop} {fr : List AV} {S : Store}
    (a' : α) (hm : μ a' < μ a) (h1 : P a') (h2 : eraseA ix fr = eraseA ix (setL fr0 (F a'))) (h3 : ∃ G, S = SS a' G) : loopK (LJ ix fr0 F SS P) μ a Q .normal fr S := loopK_normal a' ⟨h1, h2, h3⟩ hm

/-- What is left behind a statement, told once for all its ways. -/
def cutK {α : Type} (ix : List Nat) (fr0 : List AV) (F : α → List (Nat × AV)) (SS : α → Store → Store) (P : α → Prop) (Q : Ex → List AV → Store → Prop) : Ex → List AV → Store → Prop
  | .normal, fr, S => ∃ a, LJ ix fr0 F SS P a fr S
  | e, fr, S => Q e fr S
theorem cutK_ret {α : Type} {ix : List Nat} {fr0 : List AV} {F : α → List (Nat × AV)} {SS : α → Store → Store} {P : α → Prop} {Q : Ex → List AV → Store → Prop} {fr : List AV} {S : Store} (h : Q .ret fr S) : cutK ix fr0 F SS P Q .ret fr S := h
theorem cutK_exit {α : Type} {ix : List Nat} {fr0 : List AV} {F : α → List (Nat × AV)} {SS : α → Store → Store} {P : α → Prop} {Q : Ex → List AV → Store → Prop} {fr : List AV} {S : Store} {id : Nat} (h : Q (.exit id) fr S) : cutK ix fr0 F SS P Q (.exit id) fr S := h
theorem cut_next {α : Type} {ix : List Nat} {fr0 : List AV} {F : α → List (Nat × AV)} {SS : α → Store → Store} {P : α → Prop} {Q : Ex → List AV → Store → Prop} {fr : List AV} {S : Store}
    (a : α) (h1 : P a) (h2 : eraseA ix fr = eraseA ix (setL fr0 (F a))) (h3 : ∃ G, S = SS a G) : cutK ix fr0 F SS P Q .normal fr S := ⟨a, h1, h2, h3⟩
theorem wpC_cut {X : Ctx} {α : Type} {c b : Code} {Q : Ex → List AV → Store → Prop} {fr0 : List AV} {S0 : Store} (ix : List Nat) (F : α → List (Nat × AV)) (SS : α → Store → Store) (P : α → Prop)
    (h1 : wpC X c (cutK ix fr0 F SS P Q) fr0 S0)
    (h2 : ∀ a (g : Nat → AV) (G : Store), P a → wpC X b Q (garbA ix g (setL fr0 (F a))) (SS a G)) : wpC X c (seqK X b Q) fr0 S0 := by
  refine wpC_mono (fun e fr S h => ?_) h1
  cases e with
  | normal =>
    obtain ⟨a, k1, k2, G, rfl⟩ := h
    refine seqK_normal ?_
    rw [garb_of_erase k2]
    exact h2 a _ _ k1
  | exit id => exact seqK_exit h
  | ret => exact seqK_ret h

theorem wpC_cutQ {X : Ctx} {α : Type} {c : Code} {Q : Ex → List AV → Store → Prop} {fr0 : List AV} {S0 : Store} (ix : List Nat) (F : α → List (Nat × AV)) (SS : α → Store → Store) (P : α → Prop)
    (h1 : wpC X c (cutK ix fr0 F SS P Q) fr0 S0)
    (h2 : ∀ a (g : Nat → AV) (G : Store), P a → Q .normal (garbA ix g (setL fr0 (F a))) (SS a G)) : wpC X c Q fr0 S0 := by
  refine wpC_mono (fun e fr S h => ?_) h1
  cases e with
  | normal =>
    obtain ⟨a, k1, k2, G, rfl⟩ := h
    rw [garb_of_erase k2]
    exact h2 a _ _ k1
  | exit id => exact h
  | ret => exact h

theorem wpC_cutB {X : Ctx} {α : Type} {c : Code} {id : Nat} {Q : Ex → List AV → Store → Prop} {fr0 : List AV} {S0 : Store} (ix : List Nat) (F : α → List (Nat × AV)) (SS : α → Store → Store) (P : α → Prop)
    (h1 : wpC X c (blockK id (cutK ix fr0 F SS P Q)) fr0 S0)
    (h2 : ∀ a (g : Nat → AV) (G : Store), P a → Q .normal (garbA ix g (setL fr0 (F a))) (SS a G)) : wpC X c (blockK id Q) fr0 S0 := by
  have key : ∀ fr S, cutK ix fr0 F SS P Q .normal fr S → Q .normal fr S := by
    rintro fr S ⟨a, k1, k2, G, rfl⟩
    rw [garb_of_erase k2]
    exact h2 a _ _ k1
  refine wpC_mono (fun e fr S h => ?_) h1
  cases e with
  | normal => simp only [blockK] at h ⊢; exact key fr S h
  | exit id' =>
    simp only [blockK] at h ⊢
    split
    · rename_i hid; rw [if_pos hid] at h; exact key fr S h
    · rename_i hid; rw [if_neg hid] at h; exact h
  | ret => simp only [blockK] at h ⊢; exact h

/-- What holds at the head of a loop that only adds blocks. -/
def LG {α : Type} (ix : List Nat) (fr0 : List AV) (S0 : Store) (F : α → List (Nat × AV)) (P : α → Prop) (a : α) (fr : List AV) (S : Store) : Prop :=
  P a ∧ eraseA ix fr = eraseA ix (setL fr0 (F a)) ∧ ∃ G, S = S0 ++ G

theorem wpC_loopP {X : Ctx} {α : Type} {c : Code} {Q : Ex → List AV → Store → Prop} {fr0 : List AV} {S0 : Store} (ix : List Nat) (F : α → List (Nat × AV)) (P : α → Prop) (μ : α → Nat) (a0 : α)
    (h0 : P a0) (hF : eraseA ix fr0 = eraseA ix (setL fr0 (F a0)))
    (h : ∀ a (g : Nat → AV) (G : Store), P a → wpC X c (loopK (LG ix fr0 S0 F P) μ a Q) (garbA ix g (setL fr0 (F a))) (S0 ++ G)) : wpC X (.loop c) Q fr0 S0 := by
  refine wpC_loopG (LG ix fr0 S0 F P) μ a0 ⟨h0, hF, [], by rw [List.append_nil]⟩ ?_
  rintro a fr S ⟨h1, h2, G, rfl⟩
  rw [garb_of_erase h2]
  exact h a _ _ h1

theorem loopP_next {α : Type} {ix : List Nat} {fr0 : List AV} {S0 : Store} {F : α → List (Nat × AV)} {P : α → Prop} {μ : α → Nat} {a : α} {Q : Ex → List AV → Store → Prop} {fr : List AV} {S : Store}
    (a' : α) (hm : μ a' < μ a) (h1 : P a') (h2 : eraseA ix fr = eraseA ix (setL fr0 (F a'))) (h3 : ∃ G, S = S0 ++ G) : loopK (LG ix fr0 S0 F P) μ a Q .normal fr S := loopK_normal a' ⟨h1, h2, h3⟩ hm

/-- What is left behind one round of a walk along a list. -/
def eachK {β : Type} (ix : List Nat) (fr0 : List AV) (S0 : Store) (pos : Nat) (E : List β → List (Nat × AV)) (l : List β) (P : List β → List β → Prop) (pre post : List β) (Q : Ex → List AV → Store → Prop) : Ex → List AV → Store → Prop :=
  loopK (LG ix fr0 S0 (fun a : List β × List β => (pos, .int .i64 a.1.length) :: E a.1) (fun a => l = a.1 ++ a.2 ∧ P a.1 a.2)) (fun a => a.2.length) (pre, post) Q

section
variable {β : Type} {ix : List Nat} {fr0 : List AV} {S0 : Store} {pos : Nat} {E : List β → List (Nat × AV)} {l pre post : List β} {P : List β → List β → Prop} {Q : Ex → List AV → Store → Prop} {fr : List AV} {S : Store}
theorem eachK_ret (h : Q .ret fr S) : eachK ix fr0 S0 pos E l P pre post Q .ret fr S := loopK_ret h
theorem eachK_exit {id : Nat} (h : Q (.exit id) fr S) : eachK ix fr0 S0 pos E l P pre post Q (.exit id) fr S := loopK_exit h
theorem each_next {x : β} (hl : l = pre ++ x :: post) (h1 : P (pre ++ [x]) post) (h2 : eraseA ix fr = eraseA ix (setL fr0 ((pos, .int .i64 (pre ++ [x]).length) :: E (pre ++ [x])))) (h3 : ∃ G, S = S0 ++ G) :
    eachK ix fr0 S0 pos E l P pre (x :: post) Q .normal fr S :=
  loopP_next (pre ++ [x], post) (Nat.lt_succ_self _) ⟨by simp [hl], h1⟩ h2 h3

/-- A walk along a list: what is computed from here is what is computed from the rest. -/
theorem wpC_eachE {X : Ctx} {c : Code} (ix : List Nat) (pos : Nat) (E : List β → List (Nat × AV)) (l : List β) (P : List β → List β → Prop) (h0 : P [] l)
    (hF : eraseA ix fr0 = eraseA ix (setL fr0 ((pos, .int .i64 0) :: E [])))
    (hnil : ∀ (g : Nat → AV) (G : Store), P l [] → wpC X c (eachK ix fr0 S0 pos E l P l [] Q) (garbA ix g (setL fr0 ((pos, .int .i64 l.length) :: E l))) (S0 ++ G))
    (hcons : ∀ (g : Nat → AV) (G : Store) (pre : List β) (x : β) (post : List β), l = pre ++ x :: post → P pre (x :: post) →
      wpC X c (eachK ix fr0 S0 pos E l P pre (x :: post) Q) (garbA ix g (setL fr0 ((pos, .int .i64 pre.length) :: E pre))) (S0 ++ G)) : wpC X (.loop c) Q fr0 S0 := by
  refine wpC_loopP ix (fun a : List β × List β => (pos, .int .i64 a.1.length) :: E a.1) (fun a => l = a.1 ++ a.2 ∧ P a.1 a.2) (fun a => a.2.length) ([], l) ⟨rfl, h0⟩ hF ?_
  rintro ⟨pre, post⟩ g G ⟨h1, h2⟩
  simp only at h1 h2
  cases post with
  | nil => rw [List.append_nil] at h1; subst h1; exact hnil g G h2
  | cons x post => exact hcons g G pre x post h1 h2
theorem wpC_each {X : Ctx} {c : Code} (ix : List Nat) (pos : Nat) (l : List β) (P : List β → List β → Prop) (h0 : P [] l)
    (hF : eraseA ix fr0 = eraseA ix (setL fr0 [(pos, .int .i64 0)]))
    (hnil : ∀ (g : Nat → AV) (G : Store), P l [] → wpC X c (eachK ix fr0 S0 pos (fun _ => []) l P l [] Q) (garbA ix g (setL fr0 [(pos, .int .i64 l.length)])) (S0 ++ G))
    (hcons : ∀ (g : Nat → AV) (G : Store) (pre : List β) (x : β) (post : List β), l = pre ++ x :: post → P pre (x :: post) →
      wpC X c (eachK ix fr0 S0 pos (fun _ => []) l P pre (x :: post) Q) (garbA ix g (setL fr0 [(pos, .int .i64 pre.length)])) (S0 ++ G)) : wpC X (.loop c) Q fr0 S0 :=
  wpC_eachE ix pos (fun _ => []) l P h0 hF hnil hcons
end

theorem snoc_cases {β : Type} (l : List β) : l = [] ∨ ∃ a x, l = a ++ [x] := by
  rcases List.eq_nil_or_concat l with h | ⟨a, x, h⟩
  · exact .inl h
  · exact .inr ⟨a, x, by simpa using h⟩

/-! ### Lists of numbers -/
def ints (l : List Int) : List (List AV) := l.map fun n => [.int .i64 n]
theorem ints_len (l : List Int) : (ints l).length = l.length := by simp [ints]
theorem ints_append (l m : List Int) : ints (l ++ m) = ints l ++ ints m := by simp [ints]
theorem ints_mid (a : List Int) (x : Int) (b : List Int) : (ints (a ++ x :: b))[a.length]? = some [.int .i64 x] := by simp [ints]
theorem map_mid {β : Type} (f : β → List AV) (a : List β) (x : β) (b : List β) : ((a ++ x :: b).map f)[a.length]? = some (f x) := by simp

/-- A slice that shows some rows, and may be nil. -/
inductive SLs (sz : Nat) (rows : List (List AV)) : AV → Prop
  | rows (st : Bool) : SLs sz rows (.tsl st sz rows)
  | esl (h : rows = []) : SLs sz rows .esl
  | nil (h : rows = []) : SLs sz rows (.flat (.slice none 0 0))

theorem SLs.cell {sz : Nat} {rows : List (List AV)} {v : AV} (h : SLs sz rows v) : v.cell = true := by cases h <;> rfl
theorem SLs.snap {sz : Nat} {rows : List (List AV)} {v : AV} (h : SLs sz rows v) (S : Store) : snap S v = some v := by
  cases h <;> simp only [Go.Eng.snap]
theorem SLs.lenK {sz : Nat} {rows : List (List AV)} {v : AV} (h : SLs sz rows v) {i : TyI} {el : TypeId} (hd : i.desc = .slice el) : Go.Eng.lenK (some i) v = some (.int .i64 rows.length) := by
  obtain ⟨a, b, c, d, e⟩ := i
  simp only at hd; subst hd
  cases h with
  | rows st => rfl
  | esl h => subst h; rfl
  | nil h => subst h; rfl
theorem SLs.index {sz : Nat} {rows : List (List AV)} {v : AV} (h : SLs sz rows v) {X : Ctx} {t el : TypeId} {i ei : TyI} (ht : X.ty t = some i) (hd : i.desc = .slice el) (he : X.ty el = some ei) (hz : sz = ei.size) {k : IntKind} {n : Nat} {row : List AV} (hr : rows[n]? = some row) :
    ∃ st, indexAddrA X t v (.int k n) = some (.tptr st row 0) := by
  obtain ⟨a, b, c, d, e⟩ := i
  simp only at hd; subst hd
  cases h with
  | rows st => exact ⟨st, by simp [indexAddrA, ht, he, hz, hr]⟩
  | esl h => subst h; simp at hr
  | nil h => subst h; simp at hr
/-- The mark of a slice's rows. -/
def stOf : AV → Bool
  | .tsl st _ _ => st
  | _ => true
theorem lenK_sls {sz : Nat} {rows : List (List AV)} {v : AV} (h : SLs sz rows v) {a c : Nat} {b : Bool} {d : List AV} {el : TypeId} : lenK (some ⟨a, b, c, d, .slice el⟩) v = some (.int .i64 rows.length) := h.lenK rfl
theorem idx_sls {sz : Nat} {rows : List (List AV)} {v : AV} (h : SLs sz rows v) {X : Ctx} {t el : TypeId} {a c : Nat} {b : Bool} {d : List AV} {ei : TyI} (ht : X.ty t = some ⟨a, b, c, d, .slice el⟩) (he : X.ty el = some ei) (hz : sz = ei.size) {n : Nat} {row : List AV} (hr : rows[n]? = some row) {k : IntKind} :
    indexAddrA X t v (.int k n) = some (.tptr (stOf v) row 0) := by
  cases h with
  | rows st => simp [indexAddrA, ht, he, hz, hr, stOf]
  | esl h => subst h; simp at hr
  | nil h => subst h; simp at hr
theorem SLs.rowsOf {sz : Nat} {rows : List (List AV)} {v : AV} (h : SLs sz rows v) (S : Store) : rowsOf S sz v = some (rows, true) := by
  cases h with
  | rows st => simp [Go.Eng.rowsOf]
  | esl h => subst h; rfl
  | nil h => subst h; rfl

theorem wrap_small {n : Int} (h : -9223372036854775808 ≤ n) (h' : n ≤ 9223372036854775807) : IntKind.wrap .i64 n = n := by
  simp [IntKind.wrap, IntKind.min, IntKind.max, IntKind.signed, IntKind.bits]
  omega
theorem wrap_succ {n : Nat} (h : n < 9223372036854775807) : IntKind.wrap .i64 ((n : Int) + 1) = ((n + 1 : Nat) : Int) := by
  rw [wrap_small (by omega) (by omega)]; rfl
theorem len_mid {β : Type} (a : List β) (x : β) (b : List β) : (a ++ x :: b).length = a.length + (b.length + 1) := by simp
theorem len_snoc {β : Type} (a : List β) (x : β) : (a ++ [x]).length = a.length + 1 := by simp
theorem lt_mid (a b : Nat) : ((a : Int) < ((a + (b + 1) : Nat) : Int)) ↔ True := by simp; omega
theorem rowsOf_tsl {S : Store} {sz sz' : Nat} {st : Bool} {rows : List (List AV)} : rowsOf S sz (.tsl st sz' rows) = if sz' = sz then some (rows, true) else none := rfl
theorem rowsOf_sl {S : Store} {sz b e off len sz' : Nat} : rowsOf S sz (.sl b e off len sz') = match S[b]? with
    | some (.arr rows sz'' wep pr) => if sz' = sz ∧ sz'' = sz ∧ wep ≤ e ∧ off + len ≤ e ∧ e ≤ rows.length then some ((rows.drop off).take len, pr) else none
    | _ => none := rfl
theorem rowsOf_esl {S : Store} {sz : Nat} : rowsOf S sz .esl = some ([], true) := rfl
theorem rowsOf_nils {S : Store} {sz : Nat} : rowsOf S sz (.flat (.slice none 0 0)) = some ([], true) := rfl
theorem lenK_tsl {sz : Nat} {st : Bool} {rows : List (List AV)} {a c : Nat} {b : Bool} {d : List AV} {el : TypeId} : lenK (some ⟨a, b, c, d, .slice el⟩) (.tsl st sz rows) = some (.int .i64 rows.length) := rfl
theorem lenK_sl {bb e o len sz : Nat} {a c : Nat} {b : Bool} {d : List AV} {el : TypeId} : lenK (some ⟨a, b, c, d, .slice el⟩) (.sl bb e o len sz) = some (.int .i64 len) := rfl
theorem lenK_esl {a c : Nat} {b : Bool} {d : List AV} {el : TypeId} : lenK (some ⟨a, b, c, d, .slice el⟩) .esl = some (.int .i64 (0 : Nat)) := rfl
theorem lenK_nils {a c : Nat} {b : Bool} {d : List AV} {el : TypeId} : lenK (some ⟨a, b, c, d, .slice el⟩) (.flat (.slice none 0 0)) = some (.int .i64 (0 : Nat)) := rfl
theorem lenK_str {a c : Nat} {b : Bool} {d : List AV} {s : ByteArray} : lenK (some ⟨a, b, c, d, .str⟩) (.str s) = some (.int .i64 s.size) := rfl
theorem app1 {n : Nat} (h : n ≤ 1099511627776) : (n + 1) * 8 ≤ 140737488355328 ∧ n + 1 ≤ 140737488355328 := by omega

theorem slice_from {X : Ctx} {t el : TypeId} {a c : Nat} {b : Bool} {d : List AV} {ei : TyI} {st : Bool} {sz : Nat} {rows rows' : List (List AV)} {n : Nat} (ht : X.ty t = some ⟨a, b, c, d, .slice el⟩) (he : X.ty el = some ei) (hz : sz = ei.size) (hn : n ≤ rows.length) (hr : rows.drop n = rows') {k : IntKind} :
    sliceA X t (.tsl st sz rows) (some (.int k n)) none none = some (.tsl st sz rows') := by
  subst hr
  simp only [sliceA, ht, boundA, he, hz, Int.toNat_natCast, Int.natCast_nonneg, if_true]
  rw [if_pos ⟨hn, Nat.le_refl _, trivial⟩, List.take_of_length_le (by simp)]
theorem slice_to {X : Ctx} {t el : TypeId} {a c : Nat} {b : Bool} {d : List AV} {ei : TyI} {st : Bool} {sz : Nat} {rows rows' : List (List AV)} {n : Nat} (ht : X.ty t = some ⟨a, b, c, d, .slice el⟩) (he : X.ty el = some ei) (hz : sz = ei.size) (hn : n ≤ rows.length) (hr : rows.take n = rows') {k : IntKind} :
    sliceA X t (.tsl st sz rows) none (some (.int k n)) none = some (.tsl st sz rows') := by
  subst hr
  simp only [sliceA, ht, boundA, he, hz, Int.toNat_natCast, Int.natCast_nonneg, if_true]
  rw [if_pos ⟨Nat.zero_le _, hn, trivial⟩]
  rfl
theorem ints_drop (l : List Int) (n : Nat) : (ints l).drop n = ints (l.drop n) := by simp [ints]
theorem ints_take (l : List Int) (n : Nat) : (ints l).take n = ints (l.take n) := by simp [ints]

/-- The element ahead. -/
theorem prev_sls {sz : Nat} {v : AV} {β : Type} {f : β → List AV} {pre post : List β} {x : β} (h : SLs sz ((pre ++ x :: post).map f) v) (hl : (pre ++ x :: post).length < 9223372036854775807) {X : Ctx} {t el : TypeId} {a c : Nat} {b : Bool} {d : List AV} {ei : TyI} (ht : X.ty t = some ⟨a, b, c, d, .slice el⟩) (he : X.ty el = some ei) (hz : sz = ei.size) (y : β) (h0 : (0 : Int) < (pre.length : Int)) {k : IntKind} :
    indexAddrA X t v (.int k (IntKind.wrap .i64 ((pre.length : Int) - 1))) = some (.tptr (stOf v) (f (pre.getLastD y)) 0) := by
  rcases snoc_cases pre with rfl | ⟨pre, z, rfl⟩
  · simp at h0
  · simp only [List.length_append, List.length_cons, List.length_nil] at hl
    have e : IntKind.wrap .i64 (((pre ++ [z]).length : Int) - 1) = (pre.length : Int) := by
      rw [wrap_small (by simp <;> omega) (by simp <;> omega)]; simp
    rw [e]
    exact idx_sls h ht he hz (by simp)
theorem prev_ints {v : AV} {pre post : List Int} {x : Int} (h : SLs 1 (ints (pre ++ x :: post)) v) (hl : (pre ++ x :: post).length < 9223372036854775807) {X : Ctx} {t el : TypeId} {a c : Nat} {b : Bool} {d : List AV} {ei : TyI} (ht : X.ty t = some ⟨a, b, c, d, .slice el⟩) (he : X.ty el = some ei) (hz : 1 = ei.size) (h0 : (0 : Int) < (pre.length : Int)) {k : IntKind} :
    indexAddrA X t v (.int k (IntKind.wrap .i64 ((pre.length : Int) - 1))) = some (.tptr (stOf v) [.int .i64 (pre.getLastD 0)] 0) :=
  prev_sls (f := fun n => [AV.int .i64 n]) h hl ht he hz 0 h0
attribute [irreducible] eachK cutK
theorem ints_of : ∀ {rows : List (List AV)}, (∀ r ∈ rows, ∃ n, r = [.int .i64 n] ∧ (Lit.int .i64 n).wf = true) → ∃ l, rows = ints l ∧ ∀ n ∈ l, (Lit.int .i64 n).wf = true
  | [], _ => ⟨[], rfl, fun _ h => by cases h⟩
  | r :: rows, h => by
    obtain ⟨n, rfl, hn⟩ := h r (by simp)
    obtain ⟨l, rfl, hl⟩ := ints_of (rows := rows) fun r hr => h r (by simp [hr])
    exact ⟨n :: l, rfl, fun m hm => by rcases List.mem_cons.1 hm with rfl | hm; exact hn; exact hl m hm⟩

/-! ### The steps that the shape of the code alone decides -/
class Go1 (P : Prop) (Q : outParam Prop) : Prop where
  h : Q → P
theorem go1 {P Q : Prop} [i : Go1 P Q] (h : Q) : P := i.h h
section
variable {X : Ctx} {d : Bool} {ops : Array Oper} {a b c : Code} {i id : Nat} {l : List Oper} {rl : List ResultVar} {Q : Ex → List AV → Store → Prop} {R : AV → Store → Prop} {fr : List AV} {S : Store} {U : List AV → Store → Prop}
theorem wpO_consD {o : Oper} {rest : List Oper} (h : ∀ (A : List AV → Store → Prop) (B : Prop), Hold (∀ fr S, wpO X d ops rest U fr S → A fr S) → Hold True → op1 X d ops o A fr S) : wpO X d ops (o :: rest) U fr S := wpO_cons fun K hK => h K True hK ⟨trivial⟩
class Go2 (P : Prop) (F1 F2 : outParam (List AV → Store → Prop)) (G : outParam ((List AV → Store → Prop) → (List AV → Store → Prop) → Prop)) : Prop where
  h : (∀ A B : List AV → Store → Prop, Hold (∀ fr S, F1 fr S → A fr S) → Hold (∀ fr S, F2 fr S → B fr S) → G A B) → P
theorem go2 {P : Prop} {F1 F2 : List AV → Store → Prop} {G : (List AV → Store → Prop) → (List AV → Store → Prop) → Prop} [i : Go2 P F1 F2 G] (h : ∀ A B : List AV → Store → Prop, Hold (∀ fr S, F1 fr S → A fr S) → Hold (∀ fr S, F2 fr S → B fr S) → G A B) : P := i.h h
instance {o : Oper} {rest : List Oper} : Go2 (wpO X d ops (o :: rest) U fr S) (wpO X d ops rest U) (fun _ _ => True) (fun A _ => op1 X d ops o A fr S) := ⟨fun h => wpO_cons fun K hK => h K (fun _ _ => True) hK ⟨fun _ _ h => h⟩⟩
theorem condK_imp {v : AV} {A B A' B' : Prop} (hA : A → A') (hB : B → B') (h : condK v A B) : condK v A' B' := by
  unfold condK at h ⊢
  split at h
  · rename_i t
    cases t with
    | true => exact hA h
    | false => exact hB h
  · exact h
instance {c : Operand} : Go2 (wpC X (.cond c a b) Q fr S) (wpC X a Q) (wpC X b Q) (fun A B => condK (evalA fr c) (A fr S) (B fr S)) := ⟨fun h => wpC_cond fun _ _ hA hB => condK_imp hA.out hB.out (h (wpC X a Q) (wpC X b Q) ⟨fun _ _ h => h⟩ ⟨fun _ _ h => h⟩)⟩
instance : Go1 (wpC X (.seq a b) Q fr S) (wpC X a (seqK X b Q) fr S) := ⟨wpC_seq⟩
instance : Go1 (wpC X (.region i ⟨l⟩ d) Q fr S) (wpO X d ⟨l⟩ l (Q .normal) fr S) := ⟨wpC_region⟩
instance : Go1 (wpC X (.block id a) Q fr S) (wpC X a (blockK id Q) fr S) := ⟨wpC_block⟩
instance : Go1 (wpC X .skip Q fr S) (Q .normal fr S) := ⟨wpC_skip⟩
instance : Go1 (wpC X .ret Q fr S) (Q .ret fr S) := ⟨wpC_ret⟩
instance : Go1 (wpC X (.exit id) Q fr S) (Q (.exit id) fr S) := ⟨wpC_exit⟩
instance : Go1 (wpO X d ops [] U fr S) (U fr S) := ⟨wpO_nil⟩
instance : Go1 (seqK X b Q .normal fr S) (wpC X b Q fr S) := ⟨seqK_normal⟩
instance : Go1 (seqK X b Q .ret fr S) (Q .ret fr S) := ⟨seqK_ret⟩
instance : Go1 (seqK X b Q (.exit id) fr S) (Q (.exit id) fr S) := ⟨seqK_exit⟩
instance : Go1 (blockK id Q .normal fr S) (Q .normal fr S) := ⟨blockK_normal⟩
instance : Go1 (blockK id Q .ret fr S) (Q .ret fr S) := ⟨blockK_ret⟩
instance : Go1 (blockK id Q (.exit id) fr S) (Q .normal fr S) := ⟨blockK_here⟩
instance : Go1 (finK X rl R .ret fr S) (resK (resultsR X ⟨fr, S⟩ rl) S R) := ⟨finK_ret⟩
instance : Go1 (finK X rl R .normal fr S) (resK (resultsR X ⟨fr, S⟩ rl) S R) := ⟨finK_normal⟩
instance {α : Type} {J : α → List AV → Store → Prop} {μ : α → Nat} {a : α} : Go1 (loopK J μ a Q .ret fr S) (Q .ret fr S) := ⟨loopK_ret⟩
instance {α : Type} {J : α → List AV → Store → Prop} {μ : α → Nat} {a : α} : Go1 (loopK J μ a Q (.exit id) fr S) (Q (.exit id) fr S) := ⟨loopK_exit⟩
instance {β : Type} {ix : List Nat} {fr0 : List AV} {S0 : Store} {pos : Nat} {E : List β → List (Nat × AV)} {l pre post : List β} {P : List β → List β → Prop} : Go1 (eachK ix fr0 S0 pos E l P pre post Q .ret fr S) (Q .ret fr S) := ⟨eachK_ret⟩
instance {β : Type} {ix : List Nat} {fr0 : List AV} {S0 : Store} {pos : Nat} {E : List β → List (Nat × AV)} {l pre post : List β} {P : List β → List β → Prop} : Go1 (eachK ix fr0 S0 pos E l P pre post Q (.exit id) fr S) (Q (.exit id) fr S) := ⟨eachK_exit⟩
instance {α : Type} {ix : List Nat} {fr0 : List AV} {F : α → List (Nat × AV)} {SS : α → Store → Store} {P : α → Prop} : Go1 (cutK ix fr0 F SS P Q .ret fr S) (Q .ret fr S) := ⟨cutK_ret⟩
instance {α : Type} {ix : List Nat} {fr0 : List AV} {F : α → List (Nat × AV)} {SS : α → Store → Store} {P : α → Prop} : Go1 (cutK ix fr0 F SS P Q (.exit id) fr S) (Q (.exit id) fr S) := ⟨cutK_exit⟩
end
end Go.Eng
