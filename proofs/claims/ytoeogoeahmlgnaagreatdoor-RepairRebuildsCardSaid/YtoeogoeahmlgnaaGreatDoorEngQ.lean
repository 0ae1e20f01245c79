/- Small steps for the runs of single functions. -/
import Derived.Test.YtoeogoeahmlgnaaGreatDoorEngP
set_option linter.all false
namespace Go.Eng
open Go.RowKit

/-- What is left after a statement. -/
def seqK (X : Ctx) (b : Code) (Q : Ex → List AV → Store → Prop) : Ex → List AV → Store → Prop
  | .normal, fr, S => wpC X b Q fr S
  | e, fr, S => Q e fr S

def blockK (id : Nat) (Q : Ex → List AV → Store → Prop) : Ex → List AV → Store → Prop
  | .exit id', fr, S => if id' = id then Q .normal fr S else Q (.exit id') fr S
  | e, fr, S => Q e fr S

def resK (r : Option AV) (S : Store) (R : AV → Store → Prop) : Prop :=
  match r with
  | some v => R v S
  | none => False

def resultsR (X : Ctx) (st : St) (rl : List ResultVar) : Option AV :=
  match resultsL X st rl with
  | some [v] => some v
  | some vs => some (.tup vs)
  | none => none

def finK (X : Ctx) (rl : List ResultVar) (R : AV → Store → Prop) : Ex → List AV → Store → Prop
  | .exit _, _, _ => False
  | _, fr, S => resK (resultsR X ⟨fr, S⟩ rl) S R

def condK (v : AV) (A B : Prop) : Prop :=
  match v with
  | .bool t => if t = true then A else B
  | _ => False

def someK (v : Option AV) (dst : Option Tmp) (K : List AV → Store → Prop) (fr : List AV) (S : Store) : Prop :=
  match v with
  | some v => K (putA fr dst v) S
  | none => False

/-- A fact that 'simp' leaves alone. -/
structure Hold (p : Prop) : Prop where
  out : p

theorem iteI {c A B : Prop} [Decidable c] (h1 : c → A) (h2 : ¬ c → B) : if c then A else B := by
  split
  · rename_i h; exact h1 h
  · rename_i h; exact h2 h

def op1 (X : Ctx) (d : Bool) (ops : Array Oper) (o : Oper) (K : List AV → Store → Prop) (fr : List AV) (S : Store) : Prop :=
  match guardA ops fr o with
  | some g => if g = true then latP X d fr o.op o.pos (wp1 X d o (fun v S' => K (putA fr o.dst v) S') fr S) else K (putA fr o.dst (.flat undef)) S
  | none => False

section
variable {X : Ctx} {d : Bool} {ops : Array Oper}

theorem condK_bool {t : Bool} {A B : Prop} : condK (.bool t) A B = if t = true then A else B := rfl
theorem someK_some {v : AV} {dst : Option Tmp} {K : List AV → Store → Prop} {fr : List AV} {S : Store} : someK (some v) dst K fr S = K (putA fr dst v) S := rfl

theorem wpO_cons {o : Oper} {rest : List Oper} {Q : List AV → Store → Prop} {fr : List AV} {S : Store}
    (h : ∀ K : List AV → Store → Prop, Hold (∀ fr S, wpO X d ops rest Q fr S → K fr S) → op1 X d ops o K fr S) : wpO X d ops (o :: rest) Q fr S := by
  simp only [wpO]; exact h _ ⟨fun _ _ h => h⟩

theorem wpO_nil {Q : List AV → Store → Prop} {fr : List AV} {S : Store} (h : Q fr S) : wpO X d ops [] Q fr S := by simp only [wpO]; exact h

theorem wpC_region {i : Nat} {l : List Oper} {Q : Ex → List AV → Store → Prop} {fr : List AV} {S : Store} (h : wpO X d ⟨l⟩ l (Q .normal) fr S) : wpC X (.region i ⟨l⟩ d) Q fr S := by simp only [wpC]; exact h
theorem wpC_seq {a b : Code} {Q : Ex → List AV → Store → Prop} {fr : List AV} {S : Store} (h : wpC X a (seqK X b Q) fr S) : wpC X (.seq a b) Q fr S := by
  simp only [wpC]
  refine wpC_mono (fun e fr S h => ?_) h
  cases e <;> exact h
theorem wpC_block {id : Nat} {a : Code} {Q : Ex → List AV → Store → Prop} {fr : List AV} {S : Store} (h : wpC X a (blockK id Q) fr S) : wpC X (.block id a) Q fr S := by
  simp only [wpC]
  refine wpC_mono (fun e fr S h => ?_) h
  cases e <;> exact h
theorem wpC_skip {Q : Ex → List AV → Store → Prop} {fr : List AV} {S : Store} (h : Q .normal fr S) : wpC X .skip Q fr S := by simp only [wpC]; exact h
theorem wpC_ret {Q : Ex → List AV → Store → Prop} {fr : List AV} {S : Store} (h : Q .ret fr S) : wpC X .ret Q fr S := by simp only [wpC]; exact h
theorem wpC_exit {id : Nat} {Q : Ex → List AV → Store → Prop} {fr : List AV} {S : Store} (h : Q (.exit id) fr S) : wpC X (.exit id) Q fr S := by simp only [wpC]; exact h
theorem wpC_cond {c : Operand} {a b : Code} {Q : Ex → List AV → Store → Prop} {fr : List AV} {S : Store}
    (h : ∀ A B : Prop, Hold (wpC X a Q fr S → A) → Hold (wpC X b Q fr S → B) → condK (evalA fr c) A B) : wpC X (.cond c a b) Q fr S := by
  have := h _ _ ⟨id⟩ ⟨id⟩
  simp only [wpC]
  unfold condK at this
  split at this
  · rename_i t e; simp only [e]; exact this
  · exact this.elim

theorem seqK_normal {b : Code} {Q : Ex → List AV → Store → Prop} {fr : List AV} {S : Store} (h : wpC X b Q fr S) : seqK X b Q .normal fr S := h
theorem seqK_ret {b : Code} {Q : Ex → List AV → Store → Prop} {fr : List AV} {S : Store} (h : Q .ret fr S) : seqK X b Q .ret fr S := h
theorem seqK_exit {b : Code} {id : Nat} {Q : Ex → List AV → Store → Prop} {fr : List AV} {S : Store} (h : Q (.exit id) fr S) : seqK X b Q (.exit id) fr S := h
theorem blockK_normal {id : Nat} {Q : Ex → List AV → Store → Prop} {fr : List AV} {S : Store} (h : Q .normal fr S) : blockK id Q .normal fr S := h
theorem blockK_ret {id : Nat} {Q : Ex → List AV → Store → Prop} {fr : List AV} {S : Store} (h : Q .ret fr S) : blockK id Q .ret fr S := h
theorem blockK_here {id : Nat} {Q : Ex → List AV → Store → Prop} {fr : List AV} {S : Store} (h : Q .normal fr S) : blockK id Q (.exit id) fr S := by simp only [blockK, if_true]; exact h
theorem blockK_else {id id' : Nat} {Q : Ex → List AV → Store → Prop} {fr : List AV} {S : Store} (hn : Nat.beq id' id = false) (h : Q (.exit id') fr S) : blockK id Q (.exit id') fr S := by
  have : ¬ id' = id := fun e => by rw [e, Nat.beq_refl] at hn; exact Bool.noConfusion hn
  simp only [blockK, this, if_false]; exact h
theorem finK_ret {rl : List ResultVar} {R : AV → Store → Prop} {fr : List AV} {S : Store} (h : resK (resultsR X ⟨fr, S⟩ rl) S R) : finK X rl R .ret fr S := h
theorem finK_normal {rl : List ResultVar} {R : AV → Store → Prop} {fr : List AV} {S : Store} (h : resK (resultsR X ⟨fr, S⟩ rl) S R) : finK X rl R .normal fr S := h

/-- One walk through a function. -/
theorem EvR.walk {f : FuncId} {fn : Func} {c : Code} {n : Nat} {rl : List ResultVar} {args : List AV} {S : Store} {R : AV → Store → Prop} (hp : X.prim f = none) (hf : X.fn f = some fn) (hb : fn.body = some c) (hn : fn.ntmps = n) (hr : fn.results = ⟨rl⟩)
    (h : wpC X c (finK X rl R) (args ++ List.replicate (n - args.length) (.flat undef)) S) : EvR X f args S R := by
  refine EvR_of hp ?_
  unfold wpF
  simp only [hf, hb]
  subst hn
  have e1 : ∀ st, resultsA X fn st = resultsR X st rl := fun st => by simp only [resultsA, resultsR, hr]; rfl
  refine wpC_mono (fun e fr S h => ?_) h
  cases e with
  | exit id => exact h
  | normal => simp only [finK, resK, ← e1] at h; exact h
  | ret => simp only [finK, resK, ← e1] at h; exact h

theorem EvV.intro {f : FuncId} {args : List AV} {R : AV → Prop} (n : Nat) {r : AV} (h : callV (callN X n) f args = some r) (hR : R r) : EvV X f args R := ⟨n, r, h, hR⟩
theorem EvV.rw {f : FuncId} {args : List AV} {r : AV} (h : EvV X f args (· = r)) (Q : AV → Prop) : EvV X f args Q = Q r := propext (h.eq Q)
theorem EvR.rw {f : FuncId} {args : List AV} {S S1 : Store} {r : AV} (h : EvR X f args S fun v s => v = r ∧ s = S1) (Q : AV → Store → Prop) : EvR X f args S Q = Q r S1 := propext (h.eq Q)

def expK (R : AV → Prop) (r : AV) (S : Store) : Prop :=
  match exportA S r with
  | some v => R v
  | none => False

theorem EvV.walk {f : FuncId} {fn : Func} {c : Code} {n : Nat} {rl : List ResultVar} {args : List AV} {R : AV → Prop} (hp : X.prim f = none) (hf : X.fn f = some fn) (hb : fn.body = some c) (hn : fn.ntmps = n) (hr : fn.results = ⟨rl⟩)
    (h : wpC X c (finK X rl (expK R)) (args ++ List.replicate (n - args.length) (.flat undef)) []) : EvV X f args R := by
  refine EvV_of (EvR.mono (EvR.walk hp hf hb hn hr h) fun r S h => ?_)
  exact h

/-! ### The operations -/

def wpK (X : Ctx) (d : Bool) (o : Oper) (dst : Option Tmp) (K : List AV → Store → Prop) (fr : List AV) (S : Store) : Prop := wp1 X d o (fun v S' => K (putA fr dst v) S') fr S

theorem op1_go {dst : Option Tmp} {op : Op} {t : TypeId} {pos : String} {after : Array Edge} {K : List AV → Store → Prop} {fr : List AV} {S : Store} :
    op1 X d ops ⟨dst, op, t, pos, after, none⟩ K fr S = latP X d fr op pos (wpK X d ⟨dst, op, t, pos, after, none⟩ dst K fr S) := by simp only [op1, guardA, if_true, wpK]
section
variable {fr : List AV} {pos : String} {Q : Prop}
def latK (d b : Bool) (Q : Prop) : Prop := if (d && !b) = true then False else Q
theorem latK_false {b : Bool} : latK false b Q = Q := rfl
theorem latK_true : latK d true Q = Q := by cases d <;> rfl
theorem latP_store {t : TypeId} {p x : Operand} : latP X d fr (.store t p x) pos Q = latK d ((X.late pos).all fun t => apartA (getA fr t) (evalA fr p)) Q := rfl
theorem latP_move {x : Operand} : latP X d fr (.move x) pos Q = Q := rfl
theorem latP_assign {x : Operand} : latP X d fr (.assign x) pos Q = Q := rfl
theorem latP_pick {c a b : Operand} : latP X d fr (.pick c a b) pos Q = Q := rfl
theorem latP_nilCheck {x : Operand} : latP X d fr (.nilCheck x) pos Q = Q := rfl
theorem latP_makeInterface {t : TypeId} {x : Operand} : latP X d fr (.makeInterface t x) pos Q = Q := rfl
theorem latP_binOp {op : BinOp} {t t' : TypeId} {x y : Operand} : latP X d fr (.binOp op t x y t') pos Q = Q := rfl
theorem latP_unOp {op : UnOp} {t : TypeId} {x : Operand} : latP X d fr (.unOp op t x) pos Q = Q := rfl
theorem latP_convert {s t : TypeId} {x : Operand} : latP X d fr (.convert s t x) pos Q = Q := rfl
theorem latP_build {t : TypeId} {ps : Array (Nat × Operand)} : latP X d fr (.build t ps) pos Q = Q := rfl
theorem latP_field {t : TypeId} {x : Operand} {f : Nat} : latP X d fr (.field t x f) pos Q = Q := rfl
theorem latP_fieldAddr {t : TypeId} {x : Operand} {f : Nat} : latP X d fr (.fieldAddr t x f) pos Q = Q := rfl
theorem latP_indexAddr {t : TypeId} {x i : Operand} : latP X d fr (.indexAddr t x i) pos Q = Q := rfl
theorem latP_index {t : TypeId} {x i : Operand} : latP X d fr (.index t x i) pos Q = Q := rfl
theorem latP_slice {t : TypeId} {x : Operand} {a b c : Option Operand} : latP X d fr (.slice t x a b c) pos Q = Q := rfl
theorem latP_makeFunc {f : Fn} {a b : Array Operand} : latP X d fr (.makeFunc f a b) pos Q = Q := rfl
theorem latP_extract {x : Operand} {i : Nat} : latP X d fr (.extract x i) pos Q = Q := rfl
theorem latP_call {c : Call} : latP X d fr (.call c) pos Q = Q := rfl
theorem latP_load {t : TypeId} {p : Operand} : latP X d fr (.load t p) pos Q = Q := rfl
theorem latP_alloc {t : TypeId} : latP X d fr (.alloc t) pos Q = Q := rfl
theorem latP_box {t : TypeId} {x : Operand} : latP X d fr (.box t x) pos Q = Q := rfl
theorem latP_buildSlice {t : TypeId} {n : Nat} {ps : Array (Nat × Operand)} : latP X d fr (.buildSlice t n ps) pos Q = Q := rfl
theorem latP_makeSlice {t : TypeId} {l c : Operand} : latP X d fr (.makeSlice t l c) pos Q = Q := rfl
theorem latP_makeMap {t : TypeId} {n : Option Operand} : latP X d fr (.makeMap t n) pos Q = Q := rfl
theorem latP_lookup {t : TypeId} {x k : Operand} {b : Bool} : latP X d fr (.lookup t x k b) pos Q = Q := rfl
theorem latP_mapUpdate {t : TypeId} {m k x : Operand} : latP X d fr (.mapUpdate t m k x) pos Q = Q := rfl
theorem latP_range {t : TypeId} {x : Operand} : latP X d fr (.range t x) pos Q = Q := rfl
theorem latP_next {x : Operand} {b : Bool} : latP X d fr (.next x b) pos Q = Q := rfl
theorem latP_entry {x : Operand} : latP X d fr (.entry x) pos Q = Q := rfl
end


def grdK (v : AV) (want : Bool) (A B : Prop) : Prop :=
  match v with
  | .bool b => if b = want then A else B
  | .flat (.tuple _) => B
  | _ => False

theorem op1_guard {dst : Option Tmp} {op : Op} {t : TypeId} {pos : String} {after : Array Edge} {j : Nat} {want : Bool} {l : List Oper} {K : List AV → Store → Prop} {fr : List AV} {S : Store} :
    op1 X d ⟨l⟩ ⟨dst, op, t, pos, after, some (j, want)⟩ K fr S = match (l[j]?).bind (·.dst) with
      | some e => grdK (getA fr e) want (latP X d fr op pos (wpK X d ⟨dst, op, t, pos, after, some (j, want)⟩ dst K fr S)) (K (putA fr dst (.flat undef)) S)
      | none => False := by
  simp only [op1, guardA, List.getElem?_toArray]
  cases (l[j]?).bind (·.dst) with
  | none => rfl
  | some e =>
    simp only
    cases getA fr e with
    | bool b =>
      by_cases hb : b = want
      · subst hb; simp only [grdK, wpK, beq_self_eq_true, if_true]
      · have : (b == want) = false := by cases b <;> cases want <;> simp_all
        simp only [grdK, this, Bool.false_eq_true, if_false, if_neg hb]
    | flat v => cases v <;> simp [grdK]
    | _ => rfl

section
variable {dst : Option Tmp} {ty : TypeId} {pos : String} {after : Array Edge} {g : Option (Nat × Bool)} {K : List AV → Store → Prop} {fr : List AV} {S : Store}

theorem wpK_pop {op : Op} (v : Option AV) (h : popA X fr ⟨dst, op, ty, pos, after, g⟩ = v) (hq : qopA X d S S.length fr ⟨dst, op, ty, pos, after, g⟩ = none) (hn : nopA X d S S.length fr ⟨dst, op, ty, pos, after, g⟩ = none)
    (hc : calleeOf X fr ⟨dst, op, ty, pos, after, g⟩ = none) (he : eopA X S fr ⟨dst, op, ty, pos, after, g⟩ = none) : wpK X d ⟨dst, op, ty, pos, after, g⟩ dst K fr S = someK v dst K fr S := by
  subst h
  unfold wpK wp1
  cases popA X fr ⟨dst, op, ty, pos, after, g⟩ with
  | some v => rfl
  | none => simp only [hq, hn, hc, he, someK]; split <;> rfl

theorem wpK_binOp {op : BinOp} {t t' : TypeId} {x y : Operand} : wpK X d ⟨dst, .binOp op t x y t', ty, pos, after, g⟩ dst K fr S = someK (binA X op t (evalA fr x) (evalA fr y)) dst K fr S := wpK_pop _ rfl rfl rfl rfl rfl
theorem wpK_unOp {op : UnOp} {t : TypeId} {x : Operand} : wpK X d ⟨dst, .unOp op t x, ty, pos, after, g⟩ dst K fr S = someK (unA op (evalA fr x)) dst K fr S := wpK_pop _ rfl rfl rfl rfl rfl
theorem wpK_build {t : TypeId} {l : List (Nat × Operand)} : wpK X d ⟨dst, .build t ⟨l⟩, ty, pos, after, g⟩ dst K fr S = someK (buildA X t (l.map fun p => (p.1, evalA fr p.2))) dst K fr S := wpK_pop _ rfl rfl rfl rfl rfl
theorem wpK_field {t : TypeId} {x : Operand} {f : Nat} : wpK X d ⟨dst, .field t x f, ty, pos, after, g⟩ dst K fr S = someK (fieldA X t (evalA fr x) f) dst K fr S := wpK_pop _ rfl rfl rfl rfl rfl
theorem wpK_fieldAddr {t : TypeId} {x : Operand} {f : Nat} : wpK X d ⟨dst, .fieldAddr t x f, ty, pos, after, g⟩ dst K fr S = someK (fieldAddrA X t (evalA fr x) f) dst K fr S := wpK_pop _ rfl rfl rfl rfl rfl
theorem wpK_indexAddr {t : TypeId} {x i : Operand} : wpK X d ⟨dst, .indexAddr t x i, ty, pos, after, g⟩ dst K fr S = someK (indexAddrA X t (evalA fr x) (evalA fr i)) dst K fr S := wpK_pop _ rfl rfl rfl rfl rfl
theorem wpK_index {t : TypeId} {x i : Operand} : wpK X d ⟨dst, .index t x i, ty, pos, after, g⟩ dst K fr S = someK (indexA X t (evalA fr x) (evalA fr i)) dst K fr S := wpK_pop _ rfl rfl rfl rfl rfl
theorem wpK_slice {t : TypeId} {x : Operand} {lo hi mx : Option Operand} : wpK X d ⟨dst, .slice t x lo hi mx, ty, pos, after, g⟩ dst K fr S = someK (sliceA X t (evalA fr x) (lo.map (evalA fr)) (hi.map (evalA fr)) (mx.map (evalA fr))) dst K fr S := wpK_pop _ rfl rfl rfl rfl rfl
theorem wpK_makeFunc {f : FuncId} {l : List Operand} : wpK X d ⟨dst, .makeFunc (.func f) #[] ⟨l⟩, ty, pos, after, g⟩ dst K fr S = K (putA fr dst (.fn f (l.map (evalA fr)))) S := (wpK_pop _ rfl rfl rfl rfl rfl).trans rfl
theorem wpK_moveT {t : Tmp} : wpK X d ⟨dst, .move (.tmp t), ty, pos, after, g⟩ dst K fr S = K (putA fr dst (getA fr t)) S := (wpK_pop _ rfl rfl rfl rfl rfl).trans rfl
theorem wpK_assignT {t : Tmp} : wpK X d ⟨dst, .assign (.tmp t), ty, pos, after, g⟩ dst K fr S = K (putA fr dst (getA fr t)) S := (wpK_pop _ rfl rfl rfl rfl rfl).trans rfl
theorem wpK_moveF {f : FuncId} : wpK X d ⟨dst, .move (.func f), ty, pos, after, g⟩ dst K fr S = K (putA fr dst (.fn f [])) S := (wpK_pop _ rfl rfl rfl rfl rfl).trans rfl
theorem wpK_assignF {f : FuncId} : wpK X d ⟨dst, .assign (.func f), ty, pos, after, g⟩ dst K fr S = K (putA fr dst (.fn f [])) S := (wpK_pop _ rfl rfl rfl rfl rfl).trans rfl
theorem wpK_moveI {k : IntKind} {n : Int} : wpK X d ⟨dst, .move (.const (.int k n)), ty, pos, after, g⟩ dst K fr S = K (putA fr dst (.int k n)) S := (wpK_pop _ rfl rfl rfl rfl rfl).trans rfl
theorem wpK_assignI {k : IntKind} {n : Int} : wpK X d ⟨dst, .assign (.const (.int k n)), ty, pos, after, g⟩ dst K fr S = K (putA fr dst (.int k n)) S := (wpK_pop _ rfl rfl rfl rfl rfl).trans rfl
theorem wpK_moveB {b : Bool} : wpK X d ⟨dst, .move (.const (.bool b)), ty, pos, after, g⟩ dst K fr S = K (putA fr dst (.bool b)) S := (wpK_pop _ rfl rfl rfl rfl rfl).trans rfl
theorem wpK_assignB {b : Bool} : wpK X d ⟨dst, .assign (.const (.bool b)), ty, pos, after, g⟩ dst K fr S = K (putA fr dst (.bool b)) S := (wpK_pop _ rfl rfl rfl rfl rfl).trans rfl
theorem wpK_moveS {s : ByteArray} : wpK X d ⟨dst, .move (.const (.string s)), ty, pos, after, g⟩ dst K fr S = K (putA fr dst (.str s)) S := (wpK_pop _ rfl rfl rfl rfl rfl).trans rfl
theorem wpK_assignS {s : ByteArray} : wpK X d ⟨dst, .assign (.const (.string s)), ty, pos, after, g⟩ dst K fr S = K (putA fr dst (.str s)) S := (wpK_pop _ rfl rfl rfl rfl rfl).trans rfl
theorem wpK_moveA {l : List Value} : wpK X d ⟨dst, .move (.const (.agg ⟨l⟩)), ty, pos, after, g⟩ dst K fr S = K (putA fr dst (.agg (l.map ofC))) S := (wpK_pop _ rfl rfl rfl rfl rfl).trans rfl
theorem wpK_assignA {l : List Value} : wpK X d ⟨dst, .assign (.const (.agg ⟨l⟩)), ty, pos, after, g⟩ dst K fr S = K (putA fr dst (.agg (l.map ofC))) S := (wpK_pop _ rfl rfl rfl rfl rfl).trans rfl
theorem wpK_pick {c a b : Operand} : wpK X d ⟨dst, .pick c a b, ty, pos, after, g⟩ dst K fr S = condK (evalA fr c) (K (putA fr dst (evalA fr a)) S) (K (putA fr dst (evalA fr b)) S) := by
  rw [wpK_pop (match evalA fr c with | .bool t => some (if t then evalA fr a else evalA fr b) | _ => none) rfl rfl rfl rfl rfl]
  unfold condK someK
  cases evalA fr c <;> try rfl
  rename_i t; cases t <;> rfl

def nilK (v : AV) (dst : Option Tmp) (K : List AV → Store → Prop) (fr : List AV) (S : Store) : Prop :=
  match v with
  | .ptr b e sz row off => K (putA fr dst (.ptr b e sz row off)) S
  | .tptr st row off => K (putA fr dst (.tptr st row off)) S
  | .iface t x => K (putA fr dst (.iface t x)) S
  | _ => False
def mkIfA (X : Ctx) (t : TypeId) (v : AV) : Option AV := match X.ty t with
  | some i => if i.desc.solid then some (.iface t v) else none
  | none => none
theorem wpK_makeInterface {t : TypeId} {x : Operand} : wpK X d ⟨dst, .makeInterface t x, ty, pos, after, g⟩ dst K fr S = someK (mkIfA X t (evalA fr x)) dst K fr S := wpK_pop _ rfl rfl rfl rfl rfl
theorem wpK_nilCheck {x : Operand} : wpK X d ⟨dst, .nilCheck x, ty, pos, after, g⟩ dst K fr S = nilK (evalA fr x) dst K fr S := by
  rw [wpK_pop (match evalA fr x with | .ptr b e sz row off => some (.ptr b e sz row off) | .tptr st row off => some (.tptr st row off) | .iface t x => some (.iface t x) | _ => none) rfl rfl rfl rfl rfl]
  unfold nilK someK
  cases evalA fr x <;> rfl

def extK (v : AV) (i : Nat) : Option AV :=
  match v with
  | .tup vs => vs[i]?
  | _ => none
theorem wpK_extract {x : Operand} {i : Nat} : wpK X d ⟨dst, .extract x i, ty, pos, after, g⟩ dst K fr S = someK (extK (evalA fr x) i) dst K fr S := wpK_pop _ rfl rfl rfl rfl rfl

/-! What reads blocks or makes one. -/
def pairK (v : Option (AV × List Blk)) (dst : Option Tmp) (K : List AV → Store → Prop) (fr : List AV) (S : Store) : Prop :=
  match v with
  | some (v, nb) => K (putA fr dst v) (S ++ nb)
  | none => False

theorem wpK_qop {op : Op} (v : Option (AV × List Blk)) (h : popA X fr ⟨dst, op, ty, pos, after, g⟩ = none) (hq : qopA X d S S.length fr ⟨dst, op, ty, pos, after, g⟩ = v) (hn : nopA X d S S.length fr ⟨dst, op, ty, pos, after, g⟩ = none)
    (hc : calleeOf X fr ⟨dst, op, ty, pos, after, g⟩ = none) (he : eopA X S fr ⟨dst, op, ty, pos, after, g⟩ = none) : wpK X d ⟨dst, op, ty, pos, after, g⟩ dst K fr S = pairK v dst K fr S := by
  subst hq
  unfold wpK wp1
  rw [h]
  cases qopA X d S S.length fr ⟨dst, op, ty, pos, after, g⟩ with
  | some v => rfl
  | none => simp only [hn, hc, he, pairK]; split <;> rfl

def loadA (gl : Nat → Option (List AV)) (S : Store) (i : Option TyI) (p : AV) : Option AV :=
  match i with
  | some i => match p with
    | .ptr b e sz row off => match rowOf S b e sz row with
      | some r => partA i r off
      | none => none
    | .tptr _ r off => partA i r off
    | .flat (.pointer (some ⟨g, 0, none⟩)) => match gl g with
      | some r => partA i r 0
      | none => none
    | _ => none
  | none => none

theorem wpK_load {t : TypeId} {p : Operand} : wpK X d ⟨dst, .load t p, ty, pos, after, g⟩ dst K fr S = someK (loadA X.glob S (X.ty t) (evalA fr p)) dst K fr S := by
  rw [wpK_qop _ rfl rfl rfl rfl rfl]
  simp only [qopA, loadA]
  cases X.ty t with
  | none => rfl
  | some i =>
    simp only
    cases evalA fr p with
    | ptr b e sz row off =>
      simp only
      cases rowOf S b e sz row with
      | none => rfl
      | some r => simp only; cases partA i r off <;> simp [pairK, someK]
    | tptr st r off => simp only; cases partA i r off <;> simp [pairK, someK]
    | flat v =>
      cases v with
      | pointer a =>
        cases a with
        | none => rfl
        | some a =>
          obtain ⟨g, o, m⟩ := a
          cases o with
          | zero => cases m with
            | none =>
              simp only
              cases X.glob g with
              | none => rfl
              | some r => simp only; cases partA i r 0 <;> simp [pairK, someK]
            | some _ => rfl
          | succ _ => cases m <;> rfl
      | _ => rfl
    | _ => rfl

def allocK (i : Option TyI) (dst : Option Tmp) (K : List AV → Store → Prop) (fr : List AV) (S : Store) : Prop :=
  match i with
  | some i => if i.zero.length = i.size then K (putA fr dst (.ptr S.length 1 i.size 0 0)) (S ++ [.arr [i.zero] i.size 0 true]) else False
  | none => False

theorem wpK_alloc {t : TypeId} : wpK X d ⟨dst, .alloc t, ty, pos, after, g⟩ dst K fr S = allocK (X.ty t) dst K fr S := by
  rw [wpK_qop _ rfl rfl rfl rfl rfl]
  simp only [qopA, allocK]
  cases X.ty t with
  | none => rfl
  | some i => simp only; by_cases h : i.zero.length = i.size <;> simp [h, pairK]

def boxK (cs : List AV) (dst : Option Tmp) (K : List AV → Store → Prop) (fr : List AV) (S : Store) : Prop :=
  if cs.all AV.cell = true then K (putA fr dst (.ptr S.length 1 cs.length 0 0)) (S ++ [.arr [cs] cs.length 0 (stabL cs)]) else False

theorem wpK_box {t : TypeId} {x : Operand} : wpK X d ⟨dst, .box t x, ty, pos, after, g⟩ dst K fr S = boxK (evalA fr x).cells dst K fr S := by
  rw [wpK_qop _ rfl rfl rfl rfl rfl]
  simp only [qopA, boxK]
  by_cases h : (evalA fr x).cells.all AV.cell = true
  · rw [if_pos h, if_pos h]; rfl
  · rw [if_neg h, if_neg h]; rfl

def bslA (i : Option TyI) (ei : Option TyI) (d : Bool) (id len : Nat) (ps : List (Nat × AV)) : Option (AV × List Blk) :=
  match i with
  | some ⟨_, _, _, _, .slice _⟩ => match ei with
    | some ei =>
      if d = true ∧ len = 0 then (if ps.length = 0 ∧ ei.zero.length = ei.size then some (.esl, []) else none) else
      if len * ei.size ≤ 16777216 ∧ ei.zero.length = ei.size ∧ 0 < ei.size ∧ (ps.all fun p => p.2.cells.all AV.cell) then
        match rowsFill ei.size (List.replicate len ei.zero) ps with
        | some rows => some (.sl id len 0 len ei.size, [.arr rows ei.size 0 (ps.all fun p => stabL p.2.cells)])
        | none => none
      else none
    | none => none
  | _ => none

theorem wpK_buildSlice {t : TypeId} {i : TyI} {el : TypeId} {len : Nat} {l : List (Nat × Operand)} (ht : X.ty t = some i) (hd : i.desc = .slice el) (hz : X.frz pos = false) : wpK X d ⟨dst, .buildSlice t len ⟨l⟩, ty, pos, after, g⟩ dst K fr S = pairK (bslA (some i) (X.ty el) d S.length len (l.map fun p => (p.1, evalA fr p.2))) dst K fr S := by
  rw [wpK_qop _ rfl rfl rfl rfl rfl]
  obtain ⟨a, b, c, e, f⟩ := i
  simp only at hd; subst hd
  simp only [qopA, bsA, ht, hz, Bool.false_and, Bool.false_eq_true, if_false]
  cases X.ty el <;> rfl
def mkslA (i ei : Option TyI) (d : Bool) (id : Nat) (l c : AV) : Option (AV × List Blk) :=
  match l, c with
  | .int _ n, .int _ m => match ei with
    | some e => if n = m ∧ 0 ≤ n ∧ n ≤ 16777216 ∧ n.toNat * e.size ≤ 16777216 ∧ e.bytes * n.toNat ≤ 140737488355328 then bslA i ei d id n.toNat [] else none
    | none => none
  | _, _ => none
theorem wpK_makeSlice {t : TypeId} {i : TyI} {el : TypeId} {l c : Operand} (ht : X.ty t = some i) (hd : i.desc = .slice el) (hz : X.frz pos = false) : wpK X d ⟨dst, .makeSlice t l c, ty, pos, after, g⟩ dst K fr S = pairK (mkslA (some i) (X.ty el) d S.length (evalA fr l) (evalA fr c)) dst K fr S := by
  rw [wpK_qop _ rfl rfl rfl rfl rfl]
  obtain ⟨i1, i2, i3, i4, i5⟩ := i
  simp only at hd; subst hd
  congr 1
  simp only [qopA, bsA, mkslA, ht, hz, Bool.false_and, Bool.false_eq_true, if_false]
  all_goals
    cases evalA fr l <;> first | rfl | (cases evalA fr c <;> first | rfl | (cases X.ty el <;> rfl))

/-! What writes. -/
def storeK (i : Option TyI) (p : AV) (cs : List AV) (dst : Option Tmp) (K : List AV → Store → Prop) (fr : List AV) (S : Store) : Prop :=
  match i with
  | some i => match p with
    | .ptr b e sz row off => match S[b]? with
      | some (.arr rows sz' wep pr) =>
        if sz' = sz ∧ rows.length = e ∧ wep ≤ e ∧ row < e ∧ cs.length = i.size ∧ off + cs.length ≤ sz ∧ cs.all AV.cell = true then
          K (putA fr dst (.flat undef)) (S.set b (.arr (rows.set row (patch (rows.getD row []) off cs)) sz e (pr && stabL cs)))
        else False
      | _ => False
    | _ => False
  | none => False

theorem wpK_eop {op : Op} (h : popA X fr ⟨dst, op, ty, pos, after, g⟩ = none) (hq : qopA X d S S.length fr ⟨dst, op, ty, pos, after, g⟩ = none) (hn : nopA X d S S.length fr ⟨dst, op, ty, pos, after, g⟩ = none)
    (hc : calleeOf X fr ⟨dst, op, ty, pos, after, g⟩ = none) (hd : apdOK S fr ⟨dst, op, ty, pos, after, g⟩ = true) : wpK X d ⟨dst, op, ty, pos, after, g⟩ dst K fr S = match eopA X S fr ⟨dst, op, ty, pos, after, g⟩ with
      | some (v, S') => K (putA fr dst v) S'
      | none => False := by
  unfold wpK wp1
  simp only [h, hq, hn, hc, hd, Bool.not_true, Bool.and_false, Bool.false_eq_true, if_false]
  cases eopA X S fr ⟨dst, op, ty, pos, after, g⟩ <;> rfl

theorem wpK_store {t : TypeId} {p x : Operand} : wpK X d ⟨dst, .store t p x, ty, pos, after, g⟩ dst K fr S = storeK (X.ty t) (evalA fr p) (evalA fr x).cells dst K fr S := by
  rw [wpK_eop rfl rfl rfl rfl rfl]
  simp only [eopA, storeK]
  cases X.ty t with
  | none => rfl
  | some i =>
    cases evalA fr p with
    | ptr b e sz row off =>
      simp only
      cases hb : S[b]? with
      | none => rfl
      | some bl =>
        cases bl with
        | dead => rfl
        | map es => rfl
        | iter _ _ _ => rfl
        | arr rows sz' wep pr =>
          simp only
          by_cases hh : sz' = sz ∧ rows.length = e ∧ wep ≤ e ∧ row < e ∧ (evalA fr x).cells.length = i.size ∧ off + (evalA fr x).cells.length ≤ sz ∧ (evalA fr x).cells.all AV.cell = true
          · rw [if_pos hh, if_pos hh]
          · rw [if_neg hh, if_neg hh]
    | _ => rfl

/-! Maps. -/
def lookA (X : Ctx) (S : Store) (t : TypeId) (x k : AV) (ok : Bool) : Option AV :=
  match X.ty t, x with
  | some ⟨_, _, _, _, .map kt et⟩, .mp b => match S[b]?, X.ty kt, X.ty et with
    | some (.map es), some ki, some ei => if keyA X kt ki.desc k = true then
      match findA k es, unCells ei ei.zero with
      | some (some v), _ => some (if ok then .tup [v, .bool true] else v)
      | some none, some z => some (if ok then .tup [z, .bool false] else z)
      | _, _ => none
      else none
    | _, _, _ => none
  | _, _ => none
theorem wpK_lookup {t : TypeId} {x k : Operand} {ok : Bool} : wpK X d ⟨dst, .lookup t x k ok, ty, pos, after, g⟩ dst K fr S = someK (lookA X S t (evalA fr x) (evalA fr k) ok) dst K fr S := by
  have h : qopA X d S S.length fr ⟨dst, .lookup t x k ok, ty, pos, after, g⟩ = (lookA X S t (evalA fr x) (evalA fr k) ok).map fun v => (v, []) := by
    simp only [qopA, lookA]
    cases X.ty t with
    | none => rfl
    | some i =>
      obtain ⟨i1, i2, i3, i4, desc⟩ := i
      cases desc with
      | map kt et =>
        cases evalA fr x with
        | mp b =>
          simp only
          cases S[b]? with
          | none => rfl
          | some bl =>
            cases bl with
            | map es =>
              cases X.ty kt with
              | none => rfl
              | some ki =>
                cases X.ty et with
                | none => rfl
                | some ei =>
                  simp only
                  by_cases hk : keyA X kt ki.desc (evalA fr k) = true
                  · rw [if_pos hk, if_pos hk]
                    cases findA (evalA fr k) es with
                    | none => rfl
                    | some r =>
                      cases r with
                      | some v => rfl
                      | none => cases unCells ei ei.zero <;> rfl
                  · rw [if_neg hk, if_neg hk]; rfl
            | _ => rfl
        | _ => rfl
      | _ => rfl
  rw [wpK_qop _ rfl h rfl rfl rfl]
  cases lookA X S t (evalA fr x) (evalA fr k) ok with
  | none => rfl
  | some v => simp only [Option.map_some, pairK, someK, List.append_nil]
theorem wpK_makeMap {t : TypeId} : wpK X d ⟨dst, .makeMap t none, ty, pos, after, g⟩ dst K fr S = K (putA fr dst (.mp S.length)) (S ++ [.map []]) := (wpK_qop _ rfl rfl rfl rfl rfl).trans rfl
def rngK (X : Ctx) (t : TypeId) (x : AV) (dst : Option Tmp) (K : List AV → Store → Prop) (fr : List AV) (S : Store) : Prop :=
  match X.ty t, x with
  | some ⟨_, _, _, _, .map _ _⟩, .mp mb => match S[mb]? with
    | some (.map es) => if es.length ≤ 1 then K (putA fr dst (.it S.length)) (S ++ [.iter mb es.length false]) else False
    | _ => False
  | _, _ => False
theorem wpK_range {t : TypeId} {x : Operand} : wpK X d ⟨dst, .range t x, ty, pos, after, g⟩ dst K fr S = rngK X t (evalA fr x) dst K fr S := by
  rw [wpK_qop _ rfl rfl rfl rfl rfl]
  simp only [qopA, rngK, pairK]
  repeat' split
  all_goals simp_all
def entK (x : AV) (dst : Option Tmp) (K : List AV → Store → Prop) (fr : List AV) (S : Store) : Prop :=
  match x with
  | .it b => match S[b]? with
    | some (.iter mb 1 true) => match S[mb]? with
      | some (.map [e]) => K (putA fr dst (.tup [e.1, e.2])) S
      | _ => False
    | _ => False
  | _ => False
theorem wpK_entry {x : Operand} : wpK X d ⟨dst, .entry x, ty, pos, after, g⟩ dst K fr S = entK (evalA fr x) dst K fr S := by
  rw [wpK_qop _ rfl rfl rfl rfl rfl]
  simp only [qopA, entK, pairK]
  repeat' split
  all_goals simp_all
def nxtK (x : AV) (dst : Option Tmp) (K : List AV → Store → Prop) (fr : List AV) (S : Store) : Prop :=
  match x with
  | .it b => match S[b]? with
    | some (.iter mb n dn) => match S[mb]? with
      | some (.map es) => if es.length = n then
          match es, dn with
          | [], _ => K (putA fr dst (.tup [.bool false])) S
          | [e], false => K (putA fr dst (.tup [.bool true, e.1, e.2])) (S.set b (.iter mb n true))
          | [_], true => K (putA fr dst (.tup [.bool false])) S
          | _, _ => False
        else False
      | _ => False
    | _ => False
  | _ => False
theorem wpK_next {x : Operand} : wpK X d ⟨dst, .next x false, ty, pos, after, g⟩ dst K fr S = nxtK (evalA fr x) dst K fr S := by
  rw [wpK_eop rfl rfl rfl rfl rfl]
  simp only [eopA, nxtK]
  repeat' split
  all_goals simp_all
def mupK (X : Ctx) (t : TypeId) (m k x : AV) (dst : Option Tmp) (K : List AV → Store → Prop) (fr : List AV) (S : Store) : Prop :=
  match X.ty t, m with
  | some ⟨_, _, _, _, .map kt _⟩, .mp b => match S[b]?, X.ty kt with
    | some (.map es), some ki => if keyA X kt ki.desc k = true ∧ x.stab = true ∧ (findA k es).isSome = true then K (putA fr dst (.flat undef)) (S.set b (.map (updA k x es))) else False
    | _, _ => False
  | _, _ => False
theorem wpK_mapUpdate {t : TypeId} {m k x : Operand} : wpK X d ⟨dst, .mapUpdate t m k x, ty, pos, after, g⟩ dst K fr S = mupK X t (evalA fr m) (evalA fr k) (evalA fr x) dst K fr S := by
  rw [wpK_eop rfl rfl rfl rfl rfl]
  simp only [eopA, mupK]
  repeat' split
  all_goals simp_all

/-! Calls. -/
def callK (X : Ctx) (d : Bool) (st z : Bool) (f : AV) (args : List AV) (dst : Option Tmp) (K : List AV → Store → Prop) (fr : List AV) (S : Store) : Prop :=
  match f with
  | .fn g caps =>
    if X.byRef g = true then (if (d && !st) = true then False else EvR X g (args ++ caps) S fun v S' => K (putA fr dst v) S')
    else match snapL S (args ++ caps) with
      | some args' => if X.nest g = true then False else EvV X g args' fun r => K (putA fr dst (adoptZ z S.length r).1) (S ++ (adoptZ z S.length r).2)
      | none => False
  | _ => False

theorem wpK_call {f : FuncId} {l : List Operand} {ts : Array TypeId} : wpK X d ⟨dst, .call ⟨.value (.func f), ⟨l⟩, ts⟩, ty, pos, after, g⟩ dst K fr S = callK X d (X.byRef f) (X.frz pos) (.fn f []) (l.map (evalA fr)) dst K fr S := by
  unfold wpK wp1 callK
  simp only [popA, qopA, nopA, calleeOf, evalA, staticRef]
  by_cases hb : X.byRef f = true
  · simp only [hb, if_true, Bool.not_true, Bool.and_false]
  · simp only [hb]; cases snapL S (l.map (evalA fr) ++ []) <;> rfl

theorem wpK_callT {t : Tmp} {l : List Operand} {ts : Array TypeId} : wpK X d ⟨dst, .call ⟨.value (.tmp t), ⟨l⟩, ts⟩, ty, pos, after, g⟩ dst K fr S = callK X d false (X.frz pos) (getA fr t) (l.map (evalA fr)) dst K fr S := by
  unfold wpK wp1 callK
  simp only [popA, qopA, nopA, calleeOf, evalA, staticRef]
  have no : ∀ P : Prop, P = False → (if (d && false) = true then False else P) = False := fun P h => by cases d <;> simp [h]
  cases getA fr t with
  | fn f caps =>
    simp only
    by_cases hb : X.byRef f = true
    · simp only [hb, if_true]; rfl
    · simp only [hb]; cases snapL S (l.map (evalA fr) ++ caps) <;> rfl
  | _ => exact no _ rfl

def methF (X : Ctx) (r : AV) (m : String) : AV :=
  match r with
  | .iface t _ => match X.meth t m with
    | some g => .fn g []
    | none => .junk
  | _ => .junk
def recvA : AV → AV
  | .iface _ x => x
  | v => v
theorem wpK_invoke {r : Operand} {m : String} {l : List Operand} {ts : Array TypeId} : wpK X d ⟨dst, .call ⟨.invoke r m, ⟨l⟩, ts⟩, ty, pos, after, g⟩ dst K fr S = callK X d (X.refM m) (X.frz pos) (methF X (evalA fr r) m) (recvA (evalA fr r) :: l.map (evalA fr)) dst K fr S := by
  unfold wpK wp1 callK
  simp only [popA, qopA, nopA, calleeOf, staticRef, apdOK]
  have no : ∀ P : Prop, P = False → (if (d && !true) = true then False else P) = False := fun P h => by cases d <;> simp [h]
  cases evalA fr r with
  | iface t x =>
    simp only [methF, recvA]
    cases X.meth t m with
    | none => exact no _ rfl
    | some g =>
      simp only [List.append_nil]
      by_cases hb : X.byRef g = true
      · simp only [hb, if_true]; rfl
      · simp only [hb]; cases snapL S (x :: l.map (evalA fr)) <;> rfl
  | _ => exact no _ rfl

def lenK (i : Option TyI) (x : AV) : Option AV :=
  match i, lenA x with
  | some ⟨_, _, _, _, .slice _⟩, some n => (match x with | .str _ => none | _ => some (.int .i64 n))
  | some ⟨_, _, _, _, .str⟩, some n => (match x with | .str _ => some (.int .i64 n) | _ => none)
  | _, _ => none

theorem wpK_len {x : Operand} {t : TypeId} : wpK X d ⟨dst, .call ⟨.builtin .len, ⟨[x]⟩, ⟨[t]⟩⟩, ty, pos, after, g⟩ dst K fr S = someK (lenK (X.ty t) (evalA fr x)) dst K fr S := wpK_pop _ rfl rfl rfl rfl rfl
theorem wpK_max {l : List Operand} {ts : Array TypeId} : wpK X d ⟨dst, .call ⟨.builtin .max, ⟨l⟩, ts⟩, ty, pos, after, g⟩ dst K fr S = someK (minmaxA true (l.map (evalA fr))) dst K fr S := wpK_pop _ rfl rfl rfl rfl rfl
theorem wpK_min {l : List Operand} {ts : Array TypeId} : wpK X d ⟨dst, .call ⟨.builtin .min, ⟨l⟩, ts⟩, ty, pos, after, g⟩ dst K fr S = someK (minmaxA false (l.map (evalA fr))) dst K fr S := wpK_pop _ rfl rfl rfl rfl rfl

def appK (S : Store) (ei : Option TyI) (same : Bool) (d : Bool) (s x : AV) (dst : Option Tmp) (K : List AV → Store → Prop) (fr : List AV) : Prop :=
  match ei with
  | some ei => if same = true ∧ 0 < ei.size ∧ ei.zero.length = ei.size then
    match rowsOf S ei.size x with
    | some (news, prn) => match s with
      | .esl => if news.length = 0 then K (putA fr dst .esl) S else
        if news.length * ei.bytes ≤ 140737488355328 ∧ news.length ≤ 140737488355328 then K (putA fr dst (.sl S.length news.length 0 news.length ei.size)) (S ++ [.arr news ei.size 0 prn]) else False
      | .flat (.slice none 0 0) => if news.length = 0 then K (putA fr dst (.flat (.slice none 0 0))) S else
        if news.length * ei.bytes ≤ 140737488355328 ∧ news.length ≤ 140737488355328 then K (putA fr dst (.sl S.length news.length 0 news.length ei.size)) (S ++ [.arr news ei.size 0 prn]) else False
      | .sl b e off len sz => if (d && !prn) = true then False else match S[b]? with
        | some (.arr rows sz' wep pr) =>
          if off = 0 ∧ len = e ∧ rows.length = e ∧ wep ≤ e ∧ sz = ei.size ∧ sz' = sz ∧ (e + news.length) * ei.bytes ≤ 140737488355328 ∧ e + news.length ≤ 140737488355328 then
            (if news.length = 0 then K (putA fr dst (.sl b e off len sz)) S else K (putA fr dst (.sl b (e + news.length) 0 (e + news.length) sz)) (S.set b (.arr (rows ++ news) sz wep (pr && prn))))
          else False
        | _ => False
      | _ => False
    | none => False
    else False
  | none => False

theorem wpK_append {s x : Operand} {t u : TypeId} {i : TyI} {el : TypeId} (ht : X.ty t = some i) (hd : i.desc = .slice el) : wpK X d ⟨dst, .call ⟨.builtin .append, ⟨[s, x]⟩, ⟨[t, u]⟩⟩, ty, pos, after, g⟩ dst K fr S = appK S (X.ty el) (decide (t = u)) d (evalA fr s) (evalA fr x) dst K fr := by
  obtain ⟨a, b, c, e, f⟩ := i
  simp only at hd; subst hd
  unfold wpK wp1
  simp only [popA, qopA, calleeOf, apdOK, nopA, eopA, ht, appK, decide_eq_true_eq]
  cases X.ty el with
  | none => cases d <;> simp
  | some ei =>
    simp only
    by_cases h1 : t = u ∧ 0 < ei.size ∧ ei.zero.length = ei.size
    · simp only [if_pos h1]
      cases hr : rowsOf S ei.size (evalA fr x) with
      | none => cases d <;> simp
      | some np =>
        obtain ⟨news, prn⟩ := np
        simp only
        have two : ∀ (v v' : AV) (bl : Blk), (match (if news.length = 0 then some (v, []) else if news.length * ei.bytes ≤ 140737488355328 ∧ news.length ≤ 140737488355328 then some (v', [bl]) else none : Option (AV × List Blk)) with
            | some (v, nb) => K (putA fr dst v) (S ++ nb)
            | none => False) = (if news.length = 0 then K (putA fr dst v) S else if news.length * ei.bytes ≤ 140737488355328 ∧ news.length ≤ 140737488355328 then K (putA fr dst v') (S ++ [bl]) else False) := by
          intro v v' bl
          by_cases h2 : news.length = 0
          · simp only [if_pos h2, List.append_nil]
          · by_cases h3 : news.length * ei.bytes ≤ 140737488355328 ∧ news.length ≤ 140737488355328
            · simp only [if_neg h2, if_pos h3]
            · simp only [if_neg h2, if_neg h3]
        cases hs : evalA fr s with
        | esl =>
          simp only
          by_cases h2 : news.length = 0
          · simp only [if_pos h2, List.append_nil]
          · by_cases h3 : news.length * ei.bytes ≤ 140737488355328 ∧ news.length ≤ 140737488355328
            · simp only [if_neg h2, if_pos h3]
            · simp only [if_neg h2, if_neg h3]; cases d <;> simp
        | flat v =>
          cases v with
          | slice p len cap =>
            cases p with
            | some p => cases d <;> simp
            | none =>
              cases len with
              | succ n => cases d <;> simp
              | zero =>
                cases cap with
                | succ n => cases d <;> simp
                | zero =>
                  simp only
                  by_cases h2 : news.length = 0
                  · simp only [if_pos h2, List.append_nil]
                  · by_cases h3 : news.length * ei.bytes ≤ 140737488355328 ∧ news.length ≤ 140737488355328
                    · simp only [if_neg h2, if_pos h3]
                    · simp only [if_neg h2, if_neg h3]; cases d <;> simp
          | _ => cases d <;> simp
        | sl b e off len sz =>
          simp only
          have key : ∀ (q : Bool) (A B : Prop), (sz = ei.size → q = prn ∧ A = B) → (sz ≠ ei.size → A = False ∧ B = False) → (if (d && !q) = true then False else A) = if (d && !prn) = true then False else B := by
            intro q A B h2 h3
            by_cases hz : sz = ei.size
            · rw [(h2 hz).1, (h2 hz).2]
            · rw [(h3 hz).1, (h3 hz).2]; simp
          refine key _ _ _ (fun hz => ⟨?_, ?_⟩) fun hz => ⟨?_, ?_⟩
          · rw [hz, hr]
          · cases hb : S[b]? with
            | none => rfl
            | some bl =>
              cases bl with
              | arr rows sz' wep pr =>
                simp only
                by_cases h4 : off = 0 ∧ len = e ∧ rows.length = e ∧ wep ≤ e ∧ sz = ei.size ∧ sz' = sz ∧ (e + news.length) * ei.bytes ≤ 140737488355328 ∧ e + news.length ≤ 140737488355328
                · simp only [if_pos h4]
                  by_cases h2 : news.length = 0
                  · simp only [if_pos h2]
                  · simp only [if_neg h2]
                · simp only [if_neg h4]
              | _ => rfl
          · cases hb : S[b]? with
            | none => rfl
            | some bl =>
              cases bl with
              | arr rows sz' wep pr =>
                simp only
                rw [if_neg (fun h => hz h.2.2.2.2.1)]
              | _ => rfl
          · cases hb : S[b]? with
            | none => rfl
            | some bl =>
              cases bl with
              | arr rows sz' wep pr =>
                simp only
                rw [if_neg (fun h => hz h.2.2.2.2.1)]
              | _ => rfl
        | _ => cases d <;> simp
    · simp only [if_neg h1]; cases d <;> simp

/-- A nil slice as a constant. -/
def nilsK (i ei : Option TyI) (d : Bool) (dst : Option Tmp) (K : List AV → Store → Prop) (fr : List AV) (S : Store) : Prop :=
  if d = true then K (putA fr dst (.flat (.slice none 0 0))) S else
  match ei with
  | some ei => K (putA fr dst (.sl S.length 0 0 0 ei.size)) (S ++ [.arr [] ei.size 0 true])
  | none => False

theorem wpK_assignN {i : TyI} {el : TypeId} (ht : X.ty ty = some i) (hd : i.desc = .slice el) : wpK X d ⟨dst, .assign (.const (.slice none 0 0)), ty, pos, after, g⟩ dst K fr S = nilsK (some i) (X.ty el) d dst K fr S := by
  obtain ⟨a, b, c, e, f⟩ := i
  simp only at hd; subst hd
  unfold wpK wp1
  cases d with
  | true => simp [popA, qopA, nopA, nilsK]
  | false =>
    simp only [popA, qopA, nopA, nilsK, Bool.false_eq_true, if_false, ht]
    cases X.ty el <;> rfl
theorem wpK_moveN {i : TyI} {el : TypeId} (ht : X.ty ty = some i) (hd : i.desc = .slice el) : wpK X d ⟨dst, .move (.const (.slice none 0 0)), ty, pos, after, g⟩ dst K fr S = nilsK (some i) (X.ty el) d dst K fr S := by
  obtain ⟨a, b, c, e, f⟩ := i
  simp only at hd; subst hd
  unfold wpK wp1
  cases d with
  | true => simp [popA, qopA, nopA, nilsK]
  | false =>
    simp only [popA, qopA, nopA, nilsK, Bool.false_eq_true, if_false, ht]
    cases X.ty el <;> rfl
end
end
theorem getA_zero {a : AV} {l : List AV} : getA (a :: l) 0 = a := rfl
theorem getA_succ {a : AV} {l : List AV} {n : Nat} : getA (a :: l) (n + 1) = getA l n := rfl
theorem putA_some {n : Nat} {l : List AV} {v : AV} : putA l (some n) v = l.set n v := rfl
theorem putA_none {l : List AV} {v : AV} : putA l none v = l := rfl
theorem evalA_tmp {fr : List AV} {t : Nat} : evalA fr (.tmp t) = getA fr t := rfl
theorem evalA_int {fr : List AV} {k : IntKind} {n : Int} : evalA fr (.const (.int k n)) = .int k n := rfl
theorem evalA_bool {fr : List AV} {b : Bool} : evalA fr (.const (.bool b)) = .bool b := rfl
theorem evalA_str {fr : List AV} {s : ByteArray} : evalA fr (.const (.string s)) = .str s := rfl
theorem evalA_nil {fr : List AV} : evalA fr (.const (.slice none 0 0)) = .flat (.slice none 0 0) := rfl
theorem evalA_agg {fr : List AV} {l : List Value} : evalA fr (.const (.agg ⟨l⟩)) = .agg (l.map ofC) := rfl
theorem evalA_glob {fr : List AV} {g : Nat} : evalA fr (.global g) = .flat (.pointer (some ⟨g, 0, none⟩)) := rfl
theorem evalA_fn {fr : List AV} {f : FuncId} : evalA fr (.func f) = .fn f [] := rfl
theorem ofC_int {k : IntKind} {n : Int} : ofC (.int k n) = .int k n := rfl
theorem ofC_bool {b : Bool} : ofC (.bool b) = .bool b := rfl
theorem ofC_str {s : ByteArray} : ofC (.string s) = .str s := rfl
theorem ofC_nil : ofC (.slice none 0 0) = .flat (.slice none 0 0) := rfl
theorem cell_int {k : IntKind} {n : Int} : (AV.int k n).cell = true := rfl
theorem cell_bool {b : Bool} : (AV.bool b).cell = true := rfl
theorem cell_str {s : ByteArray} : (AV.str s).cell = true := rfl
theorem cell_sl {b e o l z : Nat} : (AV.sl b e o l z).cell = true := rfl
theorem cell_esl : AV.esl.cell = true := rfl
theorem cell_tsl {st : Bool} {z : Nat} {r : List (List AV)} : (AV.tsl st z r).cell = true := rfl
theorem cell_ptr {b e s r o : Nat} : (AV.ptr b e s r o).cell = true := rfl
theorem cell_tptr {st : Bool} {r : List AV} {o : Nat} : (AV.tptr st r o).cell = true := rfl
theorem cell_fn {f : FuncId} {c : List AV} : (AV.fn f c).cell = true := rfl
theorem cell_mp {b : Nat} : (AV.mp b).cell = true := rfl
theorem cell_nils : (AV.flat (.slice none 0 0)).cell = true := rfl
theorem cell_nilf : (AV.flat .nilFunc).cell = true := rfl
theorem cells_int {k : IntKind} {n : Int} : (AV.int k n).cells = [.int k n] := rfl
theorem cells_bool {b : Bool} : (AV.bool b).cells = [.bool b] := rfl
theorem cells_str {s : ByteArray} : (AV.str s).cells = [.str s] := rfl
theorem cells_agg {l : List AV} : (AV.agg l).cells = l := rfl
theorem cells_sl {b e o l z : Nat} : (AV.sl b e o l z).cells = [.sl b e o l z] := rfl
theorem cells_tsl {st : Bool} {z : Nat} {r : List (List AV)} : (AV.tsl st z r).cells = [.tsl st z r] := rfl
theorem resK_some {v : AV} {S : Store} {R : AV → Store → Prop} : resK (some v) S R = R v S := rfl
theorem grdK_bool {b want : Bool} {A B : Prop} : grdK (.bool b) want A B = if b = want then A else B := rfl
theorem grdK_undef {want : Bool} {A B : Prop} : grdK (.flat undef) want A B = B := rfl
theorem pairK_some {v : AV} {nb : List Blk} {dst : Option Tmp} {K : List AV → Store → Prop} {fr : List AV} {S : Store} : pairK (some (v, nb)) dst K fr S = K (putA fr dst v) (S ++ nb) := rfl
theorem nilK_ptr {b e sz row off : Nat} {dst : Option Tmp} {K : List AV → Store → Prop} {fr : List AV} {S : Store} : nilK (.ptr b e sz row off) dst K fr S = K (putA fr dst (.ptr b e sz row off)) S := rfl
theorem nilK_tptr {st : Bool} {row : List AV} {off : Nat} {dst : Option Tmp} {K : List AV → Store → Prop} {fr : List AV} {S : Store} : nilK (.tptr st row off) dst K fr S = K (putA fr dst (.tptr st row off)) S := rfl
theorem expK_int {R : AV → Prop} {k : IntKind} {n : Int} {S : Store} : expK R (.int k n) S = R (.int k n) := rfl
theorem expK_bool {R : AV → Prop} {b : Bool} {S : Store} : expK R (.bool b) S = R (.bool b) := rfl
theorem expK_str {R : AV → Prop} {b : ByteArray} {S : Store} : expK R (.str b) S = R (.str b) := rfl
theorem expK_agg {R : AV → Prop} {cs : List AV} {S : Store} : expK R (.agg cs) S = match expCells S cs with | some l => R (.agg l) | none => False := by
  simp only [expK, exportA, idsOK, ownIds, if_true, expTop]; cases expCells S cs <;> rfl
theorem expK_tup {R : AV → Prop} {cs : List AV} {S : Store} : expK R (.tup cs) S = if idsOK cs = true then (match expTops S cs with | some l => R (.tup l) | none => False) else False := by
  simp only [expK, exportA]
  by_cases h : idsOK cs = true
  · simp only [if_pos h]; cases expTops S cs <;> rfl
  · simp only [if_neg h]
theorem expK_own {R : AV → Prop} {b n sz : Nat} {S : Store} : expK R (.sl b n 0 n sz) S = match S[b]? with
    | some (.arr rows sz' wep pr) => if sz' = sz ∧ rows.length = n ∧ wep ≤ n ∧ (pr || rows.all stabL) = true then R (.osl sz rows) else False
    | _ => False := by
  have e0 : idsOK [.sl b n 0 n sz] = true := by simp [idsOK, ownIds, lentIds]
  simp only [expK, exportA, e0, if_true, expTop, and_self]
  cases S[b]? with
  | none => rfl
  | some bl =>
    cases bl with
    | dead => rfl
    | map es => rfl
    | iter _ _ _ => rfl
    | arr rows sz' wep pr =>
      simp only
      by_cases hc : sz' = sz ∧ rows.length = n ∧ wep ≤ n ∧ (pr || rows.all stabL) = true
      · rw [if_pos hc, if_pos hc]
      · rw [if_neg hc, if_neg hc]
theorem expK_tsl {R : AV → Prop} {sz : Nat} {rows : List (List AV)} {S : Store} : expK R (.tsl true sz rows) S = R (.tsl true sz rows) := rfl
theorem adoptZ_false {id : Nat} {r : AV} : adoptZ false id r = adoptA id r := rfl
theorem adoptZ_true {id : Nat} {r : AV} : adoptZ true id r = (freezeA r, []) := rfl
theorem freeze_int {k : IntKind} {n : Int} : freezeA (.int k n) = .int k n := rfl
theorem freeze_bool {b : Bool} : freezeA (.bool b) = .bool b := rfl
theorem freeze_str {b : ByteArray} : freezeA (.str b) = .str b := rfl
theorem freeze_flat {v : Value} : freezeA (.flat v) = .flat v := rfl
theorem freeze_agg {cs : List AV} : freezeA (.agg cs) = .agg cs := rfl
theorem freeze_osl {sz : Nat} {rows : List (List AV)} : freezeA (.osl sz rows) = .tsl true sz rows := rfl
theorem freeze_tsl {st : Bool} {sz : Nat} {rows : List (List AV)} : freezeA (.tsl st sz rows) = .tsl st sz rows := rfl
theorem freeze_tup {cs : List AV} : freezeA (.tup cs) = .tup (cs.map frz1) := rfl
theorem frz1_bool {b : Bool} : frz1 (.bool b) = .bool b := rfl
theorem frz1_int {k : IntKind} {n : Int} : frz1 (.int k n) = .int k n := rfl
theorem frz1_str {b : ByteArray} : frz1 (.str b) = .str b := rfl
theorem frz1_agg {cs : List AV} : frz1 (.agg cs) = .agg cs := rfl
theorem frz1_osl {sz : Nat} {rows : List (List AV)} : frz1 (.osl sz rows) = .tsl true sz rows := rfl
theorem frz1_tsl {st : Bool} {sz : Nat} {rows : List (List AV)} : frz1 (.tsl st sz rows) = .tsl st sz rows := rfl
theorem adopt_int {id : Nat} {k : IntKind} {n : Int} : adoptA id (.int k n) = (.int k n, []) := rfl
theorem adopt_bool {id : Nat} {b : Bool} : adoptA id (.bool b) = (.bool b, []) := rfl
theorem adopt_str {id : Nat} {b : ByteArray} : adoptA id (.str b) = (.str b, []) := rfl
theorem adopt_agg {id : Nat} {cs : List AV} : adoptA id (.agg cs) = (.agg cs, []) := rfl
theorem adopt_osl {id sz : Nat} {rows : List (List AV)} : adoptA id (.osl sz rows) = (.sl id rows.length 0 rows.length sz, [.arr rows sz 0 true]) := rfl
theorem adopt_tsl {id sz : Nat} {st : Bool} {rows : List (List AV)} : adoptA id (.tsl st sz rows) = (.tsl st sz rows, []) := rfl
theorem adopt_tup {id : Nat} {cs : List AV} : adoptA id (.tup cs) = (.tup (adoptL id cs).1, (adoptL id cs).2) := rfl
theorem snap_int {S : Store} {k : IntKind} {n : Int} : snap S (.int k n) = some (.int k n) := by simp only [snap]
theorem snap_bool {S : Store} {b : Bool} : snap S (.bool b) = some (.bool b) := by simp only [snap]
theorem snap_str {S : Store} {b : ByteArray} : snap S (.str b) = some (.str b) := by simp only [snap]
theorem snap_tsl {S : Store} {st : Bool} {sz : Nat} {rows : List (List AV)} : snap S (.tsl st sz rows) = some (.tsl st sz rows) := by simp only [snap]
theorem snap_flat {S : Store} {v : Value} : snap S (.flat v) = some (.flat v) := by simp only [snap]
theorem snap_agg {S : Store} {cs : List AV} : snap S (.agg cs) = match snapL S cs with | some l => some (.agg l) | none => none := by rw [snap]; cases snapL S cs <;> rfl
theorem snap_fn {S : Store} {f : FuncId} {cs : List AV} : snap S (.fn f cs) = match snapL S cs with | some l => some (.fn f l) | none => none := by rw [snap]; cases snapL S cs <;> rfl
theorem snap_sl {S : Store} {b e off len sz : Nat} : snap S (.sl b e off len sz) = match rowsOf S sz (.sl b e off len sz) with
    | some (rows, pr) => if (pr || rows.all stabL) = true then some (.tsl false sz rows) else none
    | none => none := by rw [snap]; cases rowsOf S sz (.sl b e off len sz) <;> rfl
theorem snapL_nil {S : Store} : snapL S [] = some [] := by rw [snapL]
theorem snapL_cons {S : Store} {c : AV} {cs : List AV} : snapL S (c :: cs) = match snap S c with
    | some c' => match snapL S cs with
      | some cs' => some (c' :: cs')
      | none => none
    | none => none := by rw [snapL]; cases snap S c <;> cases snapL S cs <;> rfl
theorem callK_fn {X : Ctx} {d st z : Bool} {g : FuncId} {caps args : List AV} {dst : Option Tmp} {K : List AV → Store → Prop} {fr : List AV} {S : Store} :
    callK X d st z (.fn g caps) args dst K fr S = if X.byRef g = true then (if (d && !st) = true then False else EvR X g (args ++ caps) S fun v S' => K (putA fr dst v) S')
    else match snapL S (args ++ caps) with
      | some args' => if X.nest g = true then False else EvV X g args' fun r => K (putA fr dst (adoptZ z S.length r).1) (S ++ (adoptZ z S.length r).2)
      | none => False := rfl
theorem getElem?_len {α : Type} {G l : List α} : (G ++ l)[G.length]? = l[0]? := by rw [List.getElem?_append_right (Nat.le_refl _), Nat.sub_self]
theorem getElem?_lenAdd {α : Type} {G l : List α} {k : Nat} : (G ++ l)[G.length + k]? = l[k]? := by rw [List.getElem?_append_right (Nat.le_add_right _ _), Nat.add_sub_cancel_left]
theorem set_len {α : Type} {G l : List α} {x : α} : (G ++ l).set G.length x = G ++ l.set 0 x := by simp
theorem set_lenAdd {α : Type} {G l : List α} {k : Nat} {x : α} : (G ++ l).set (G.length + k) x = G ++ l.set k x := by simp [List.set_append]

/-! ### Loops -/
def loopK {α : Type} (J : α → List AV → Store → Prop) (μ : α → Nat) (a : α) (Q : Ex → List AV → Store → Prop) : Ex → List AV → Store → Prop
  | .normal, fr, S => ∃ a', J a' fr S ∧ μ a' < μ a
  | e, fr, S => Q e fr S
theorem loopK_ret {α : Type} {J : α → List AV → Store → Prop} {μ : α → Nat} {a : α} {Q : Ex → List AV → Store → Prop} {fr : List AV} {S : Store} (h : Q .ret fr S) : loopK J μ a Q .ret fr S := h
theorem loopK_exit {α : Type} {J : α → List AV → Store → Prop} {μ : α → Nat} {a : α} {Q : Ex → List AV → Store → Prop} {id : Nat} {fr : List AV} {S : Store} (h : Q (.exit id) fr S) : loopK J μ a Q (.exit id) fr S := h
theorem loopK_normal {α : Type} {J : α → List AV → Store → Prop} {μ : α → Nat} {a : α} {Q : Ex → List AV → Store → Prop} {fr : List AV} {S : Store} (a' : α) (h : J a' fr S) (hm : μ a' < μ a) : loopK J μ a Q .normal fr S := ⟨a', h, hm⟩

theorem wpC_loopG {X : Ctx} {α : Type} {c : Code} {Q : Ex → List AV → Store → Prop} {fr : List AV} {S : Store} (J : α → List AV → Store → Prop) (μ : α → Nat) (a0 : α) (h0 : J a0 fr S)
    (h : ∀ a fr S, J a fr S → wpC X c (loopK J μ a Q) fr S) : wpC X (.loop c) Q fr S := by
  have go : ∀ (k : Nat) (a : α) (fr : List AV) (S : Store), J a fr S → μ a < k → wpL (wpC X c) Q k fr S := by
    intro k
    induction k with
    | zero => intro a fr S _ h; omega
    | succ k ih =>
      intro a fr S hj hm
      refine wpC_mono (c := c) (fun e fr' S' h' => ?_) (h a fr S hj)
      cases e with
      | normal => obtain ⟨a', h1, h2⟩ := h'; exact ih a' fr' S' h1 (by omega)
      | exit id => exact h'
      | ret => exact h'
  exact ⟨_, go (μ a0 + 1) a0 fr S h0 (Nat.lt_succ_self _)⟩

theorem callK_val {X : Ctx} {d st z : Bool} {g : FuncId} {caps args : List AV} {dst : Option Tmp} {K : List AV → Store → Prop} {fr : List AV} {S : Store} {args' : List AV} (hb : X.byRef g = false) (hn : X.nest g = false) (hs : snapL S (args ++ caps) = some args') :
    callK X d st z (.fn g caps) args dst K fr S = EvV X g args' fun r => K (putA fr dst (adoptZ z S.length r).1) (S ++ (adoptZ z S.length r).2) := by simp only [callK, hb, hs, hn]; rfl
attribute [irreducible] op1 wpK seqK blockK finK resK condK someK grdK nilK pairK allocK boxK storeK callK appK nilsK expK loopK
end Go.Eng
