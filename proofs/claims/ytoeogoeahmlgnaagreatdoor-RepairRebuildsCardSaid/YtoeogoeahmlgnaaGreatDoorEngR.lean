/- What the arguments of a statement are, as trees. -/
import Derived.Test.YtoeogoeahmlgnaaGreatDoorEngP
import Derived.Deep.Slices
import Derived.ChangeSame
import Derived.Carry
import Derived.OpenShut
set_option linter.all false
namespace Go.Eng
open Go.RowKit Go.ChangeShapes Go.WideShapes

inductive Shp where
  | int (k : IntKind)
  | bool
  | str
  | sl (e : List Shp)

mutual
def okC : Shp → AV → Prop
  | .int k, v => ∃ n, v = .int k n ∧ (Lit.int k n).wf = true
  | .bool, v => ∃ b, v = .bool b
  | .str, v => ∃ s, v = .str s ∧ s.size ≤ maxLen
  | .sl e, v => ∃ rows, v = .tsl true e.length rows ∧ rows.length ≤ maxLen ∧ ∀ r ∈ rows, okR e r
def okR : List Shp → List AV → Prop
  | [], r => r = []
  | s :: ss, r => ∃ v r', r = v :: r' ∧ okC s v ∧ okR ss r'
end

mutual
/-- How great a tree is. -/
def avB : AV → Nat
  | .str s => s.size + 1
  | .tsl _ _ rows => avBR rows + 1
  | .agg cs => avBL cs
  | _ => 1
def avBL : List AV → Nat
  | [] => 0
  | c :: cs => avB c + avBL cs
def avBR : List (List AV) → Nat
  | [] => 0
  | r :: rs => avBL r + avBR rs
end

/-- A measure of what a reading shows. -/
structure BulkOK {H : Type} (b : DataW H → Nat) (bA : List (DataW H) → Nat) : Prop where
  nil : bA [] = 0
  cons : ∀ d r, bA (d :: r) = b d + bA r
  one : ∀ d, 1 ≤ b d
  str : ∀ l, b (.lit (.string l)) = l.length + 1
  slice : ∀ e s, b (.slice e s) = bA e + bA s + 1
  agg : ∀ p, b (.agg p) = bA p + 1

theorem avBL_append : ∀ (a b : List AV), avBL (a ++ b) = avBL a + avBL b
  | [], b => by simp [avBL]
  | x :: a, b => by simp only [List.cons_append, avBL, avBL_append a b]; omega

def shpFs (P : Program) (rec : TypeId → Option (List Shp)) : List Field → Nat → Option (List Shp)
  | [], _ => some []
  | f :: fs, off => if f.offset = off then match rec f.type with
      | some l => if P.cellsOf f.type = l.length then match shpFs P rec fs (off + l.length) with
        | some l' => some (l ++ l')
        | none => none
        else none
      | none => none
    else none

/-- The cells of a type. -/
def shpOf (P : Program) : Nat → TypeId → Option (List Shp)
  | 0, _ => none
  | n + 1, t => match P.underlying t with
    | some (.int k) => some [.int k]
    | some .bool => some [.bool]
    | some .string => some [.str]
    | some (.slice e) => match shpOf P n e with
      | some l => if 0 < l.length ∧ P.cellsOf e = l.length then some [.sl l] else none
      | none => none
    | some (.struct fs) => match shpFs P (shpOf P n) fs.toList 0 with
      | some l => if l.length = P.cellsOf t then some l else none
      | none => none
    | _ => none

theorem okR_len : ∀ {ss : List Shp} {r : List AV}, okR ss r → r.length = ss.length
  | [], _, h => by simp only [okR] at h; subst h; rfl
  | s :: ss, _, h => by
    simp only [okR] at h
    obtain ⟨v, r', rfl, _, h2⟩ := h
    simp [okR_len h2]

theorem okR_append : ∀ {ss ss' : List Shp} {r r' : List AV}, okR ss r → okR ss' r' → okR (ss ++ ss') (r ++ r')
  | [], _, _, _, h, h' => by simp only [okR] at h; subst h; exact h'
  | s :: ss, ss', _, r', h, h' => by
    simp only [okR, List.cons_append] at h ⊢
    obtain ⟨v, r1, rfl, h1, h2⟩ := h
    exact ⟨v, r1 ++ r', rfl, h1, okR_append h2 h'⟩

section
variable {H : Type} {enc : TypeId × Value → H} {P : Program} {W : World} {sp : Nat → Bool} {held : Bool}

abbrev Whl (W : World) : Area := fun g => g < W.heap.size

theorem cell?_lt {a : Addr} {u : Value} (h : W.cell? a = some u) : a.block < W.heap.size := by
  unfold World.cell? at h
  split at h
  · rename_i e
    exact (Array.getElem?_eq_some_iff.1 e).1
  · cases h

theorem cell?_spot {a : Addr} {u : Value} (h : W.cell? a = some u) : a.spot = none := by
  unfold World.cell? at h
  split at h
  · split at h
    · cases h
    · rename_i hs; simpa using hs
  · cases h

theorem add_spot (a : Addr) (i : Nat) (h : a.spot = none) : a.add i = ⟨a.block, a.off + i, none⟩ := by
  unfold Addr.add
  obtain ⟨b, o, s⟩ := a
  simp only at h
  subst h
  split
  · rename_i h0; simp at h0 ⊢; omega
  · rfl

def Row (W : World) (τ : List Shp) (cs : List Value) (m : Nat) : Prop := ∃ row, okR τ row ∧ listRep W row (Whl W) (Whl W) noInj cs ∧ (∀ u ∈ cs, u.oneCell' = true) ∧ avBL row ≤ m

variable {b : DataW H → Nat} {bA : List (DataW H) → Nat} (hB : BulkOK b bA)
include hB

theorem bA_range {n : Nat} {D : Nat → DataW H} : ∀ {R : Nat → List AV} , (∀ i, i < n → avBL (R i) ≤ b (D i)) → avBR ((List.range n).map R) ≤ bA ((List.range n).map D) := by
  have go : ∀ (l : List Nat) {R : Nat → List AV}, (∀ i ∈ l, avBL (R i) ≤ b (D i)) → avBR (l.map R) ≤ bA (l.map D) := by
    intro l
    induction l with
    | nil => intro R _; simp [avBR]
    | cons x l ih =>
      intro R h
      simp only [List.map_cons, avBR, hB.cons]
      have h1 := h x (by simp)
      have h2 := ih (R := R) fun i hi => h i (by simp [hi])
      omega
  exact fun {R} h => go _ fun i hi => h i (List.mem_range.1 hi)


theorem fields_row {rec : TypeId → Option (List Shp)} {n : Nat} (ih : ∀ t τ, rec t = some τ → ∀ cs x, DataW.trod enc P W 0 sp held n t cs = some x → Row W τ cs (b x.1)) :
    ∀ (fs : List Field) (off : Nat) (l : List Shp), shpFs P rec fs off = some l → ∀ (cs : List Value) (xs : List (DataW H × List MemPlace)), xs.length = fs.length →
      (∀ (i : Nat) (f : Field), fs[i]? = some f → DataW.trod enc P W 0 sp held n f.type ((cs.drop f.offset).take (P.cellsOf f.type)) = xs[i]?) → Row W l ((cs.drop off).take l.length) (bA (xs.map (·.1)))
  | [], off, l, h, cs, xs, _, _ => by
    simp only [shpFs, Option.some.injEq] at h
    subst h
    exact ⟨[], rfl, by simp [listRep], by simp, by simp [avBL]⟩
  | f :: fs, off, l, h, cs, xs, hxs, hx => by
    simp only [shpFs] at h
    split at h
    · rename_i hoff
      split at h
      · rename_i l1 e1
        split at h
        · rename_i hc
          split at h
          · rename_i l2 e2
            injection h with h
            subst h
            match xs, hxs with
            | x :: xs, hxs =>
              have h0 := hx 0 f rfl
              rw [hoff, hc] at h0
              obtain ⟨r1, k1, k2, k3, k4⟩ := ih f.type l1 e1 _ x h0
              obtain ⟨r2, m1, m2, m3, m4⟩ := fields_row ih fs (off + l1.length) l2 e2 cs xs (by simpa using hxs) (fun i f' hf => by simpa using hx (i + 1) f' (by simpa using hf))
              have e : (cs.drop off).take (l1 ++ l2).length = (cs.drop off).take l1.length ++ (cs.drop (off + l1.length)).take l2.length := by
                rw [List.length_append, List.take_add, List.drop_drop]
              refine ⟨r1 ++ r2, okR_append k1 m1, ?_, ?_, ?_⟩
              · rw [e]; exact listRep_append k2 m2
              · rw [e]
                intro u hu
                rcases List.mem_append.1 hu with hu | hu
                · exact k3 u hu
                · exact m3 u hu
              · simp only [avBL_append, List.map_cons, hB.cons]; omega
          · cases h
        · cases h
      · cases h
    · cases h

theorem trod_row : ∀ (k : Nat) (t : TypeId) (τ : List Shp), shpOf P k t = some τ → ∀ (n : Nat) (cs : List Value) (x : DataW H × List MemPlace), DataW.trod enc P W 0 sp held n t cs = some x → Row W τ cs (b x.1)
  | 0, _, _, h, _, _, _, _ => by simp [shpOf] at h
  | k + 1, t, τ, h, n, cs, x, hx => by
    simp only [shpOf] at h
    split at h
    · rename_i ki e
      injection h with h; subst h
      obtain ⟨m, rfl, rfl, hw⟩ := DataW.trod_int e hx
      exact ⟨[.int ki m], by simp only [okR, okC]; exact ⟨_, [], rfl, ⟨m, rfl, hw⟩, rfl⟩, by simp [listRep, vrep], by simp [Value.oneCell'], by simp only [avBL, avB]; exact hB.one _⟩
    · rename_i e
      injection h with h; subst h
      obtain ⟨bb, rfl, rfl⟩ := DataW.trod_bool e hx
      exact ⟨[.bool bb], by simp only [okR, okC]; exact ⟨_, [], rfl, ⟨bb, rfl⟩, rfl⟩, by simp [listRep, vrep], by simp [Value.oneCell'], by simp only [avBL, avB]; exact hB.one _⟩
    · rename_i e
      injection h with h; subst h
      obtain ⟨s, rfl, rfl, hs⟩ := DataW.trod_string e hx
      exact ⟨[.str s], by simp only [okR, okC]; exact ⟨_, [], rfl, ⟨s, rfl, hs⟩, rfl⟩, by simp [listRep, vrep], by simp [Value.oneCell'], by simp only [avBL, avB, hB.str, Array.length_toList]; show s.size + 1 + 0 ≤ s.size + 1; omega⟩
    · rename_i el e
      split at h
      · rename_i l e1
        split at h
        · rename_i hl
          injection h with h; subst h
          rcases Deep.open_slice e hx with ⟨rfl, _⟩ | ⟨a, len, cap, m, n', D, Pl, rfl, _, hlc, hcm, hm, rfl, hel⟩
          · refine ⟨[.tsl true l.length []], ?_, ?_, ?_, by simp only [avBL, avB, avBR]; exact hB.one _⟩
            · simp only [okR, okC]; exact ⟨_, [], rfl, ⟨[], rfl, by simp, by simp⟩, rfl⟩
            · simp only [listRep]; exact ⟨_, [], rfl, by simp only [vrep]; exact ⟨none, 0, by simp, by simp, by simp, fun _ => rfl, fun h => absurd rfl h⟩, rfl⟩
            · simp [Value.oneCell']
          · have hlm : len ≤ m := by rw [hm]; split <;> omega
            obtain ⟨R, hR⟩ := Deep.choose_lt (α := List AV) (n := len) (p := fun i r => okR l r ∧ avBL r ≤ b (D i) ∧ ∀ (j : Nat) (c : AV), r[j]? = some c → ∃ u, W.cell? (a.add (i * l.length + j)) = some u ∧ u.oneCell' = true ∧ vrep W c (Whl W) (Whl W) noInj u) (fun i hi => by
              obtain ⟨cs', h1, h2⟩ := hel i (by omega)
              obtain ⟨row, k1, k2, k3, k4⟩ := trod_row k el l e1 _ _ _ h2
              obtain ⟨_, hlen, hget⟩ := World.cells?_some h1
              refine ⟨row, k1, k4, fun j c hj => ?_⟩
              obtain ⟨u, hu, hv⟩ := listRep_get k2 j c hj
              have hjl : j < cs'.length := (List.getElem?_eq_some_iff.1 hu).1
              refine ⟨u, ?_, k3 u (List.mem_of_getElem? hu), hv⟩
              have := hget j (by rw [← hlen]; exact hjl)
              rw [Deep.add_add, hl.2] at this
              rw [this, hu])
            have hsp : 0 < len → a.spot = none ∧ a.block < W.heap.size := fun h0 => by
              obtain ⟨k1, _, k2⟩ := hR 0 h0
              have hl1 := okR_len k1
              obtain ⟨u, hu, _⟩ := k2 0 ((R 0)[0]'(by omega)) (List.getElem?_eq_getElem (by omega))
              have h3 := cell?_lt hu
              have h4 := cell?_spot hu
              unfold Addr.add at h3 h4
              simp at h3 h4
              exact ⟨h4, h3⟩
            refine ⟨[.tsl true l.length ((List.range len).map R)], ?_, ?_, ?_, ?_⟩
            · simp only [okR, okC]
              refine ⟨_, [], rfl, ⟨_, rfl, by simp; omega, ?_⟩, rfl⟩
              intro r hr
              obtain ⟨i, hi, rfl⟩ := List.mem_map.1 hr
              exact (hR i (List.mem_range.1 hi)).1
            · simp only [listRep]
              refine ⟨_, [], rfl, ?_, rfl⟩
              simp only [vrep]
              refine ⟨some a, cap, by simp, by simpa using hlc, hcm, fun h => by simp at h, fun hne => ?_⟩
              have h0 : 0 < len := by
                cases len with
                | zero => simp at hne
                | succ n => omega
              obtain ⟨hs, hb⟩ := hsp h0
              refine ⟨a.block, a.off, ?_, ?_, ?_⟩
              · obtain ⟨b, o, s⟩ := a
                simp only at hs
                subst hs
                rfl
              · simp only [pick, if_true]; exact hb
              · rw [rowsRep_iff]
                intro i r hr
                simp only [List.getElem?_map] at hr
                by_cases hi : i < len
                · rw [List.getElem?_range hi] at hr
                  simp only [Option.map_some, Option.some.injEq] at hr
                  subst hr
                  obtain ⟨k1, _, k2⟩ := hR i hi
                  refine ⟨okR_len k1, ?_⟩
                  rw [cellsRep_iff]
                  intro j c hj
                  obtain ⟨u, m1, m2, m3⟩ := k2 j c hj
                  rw [add_spot a _ hs, ← Nat.add_assoc] at m1
                  exact ⟨u, m1, m2, m3⟩
                · rw [List.getElem?_eq_none (by simp; omega)] at hr
                  simp at hr
            · simp [Value.oneCell']
            · simp only [avBL, avB, hB.slice]
              have := bA_range hB (n := len) (D := D) (R := R) fun i hi => (hR i hi).2.1
              omega
        · cases h
      · cases h
    · rename_i fs e
      split at h
      · rename_i l e1
        split at h
        · rename_i hl
          injection h with h; subst h
          obtain ⟨xs, n', rfl, rfl, hlen, hxl, hxs⟩ := DataW.trod_struct e hx
          have := fields_row hB (enc := enc) (sp := sp) (held := held) (n := n') (fun t τ h cs x hx => trod_row k t τ h n' cs x hx) fs.toList 0 l e1 cs xs (by simpa using hxl) (fun i f hf => hxs i f (by simpa using hf))
          rw [List.drop_zero, List.take_of_length_le (by omega)] at this
          obtain ⟨row, k1, k2, k3, k4⟩ := this
          exact ⟨row, k1, k2, k3, by rw [hB.agg]; omega⟩
        · cases h
      · cases h
    · cases h

/-! ### Arguments -/
/-- The cells of a parameter; 'true': it is a struct. -/
def argShp (P : Program) (k : Nat) (t : TypeId) : Option (Bool × List Shp) :=
  match P.underlying t with
  | some (.struct _) => (shpOf P k t).map fun l => (true, l)
  | some _ => (shpOf P k t).map fun l => (false, l)
  | none => none

def okArg : Bool × List Shp → AV → Prop
  | (true, τ), v => ∃ row, v = .agg row ∧ okR τ row
  | (false, [s]), v => okC s v
  | (false, _), _ => False

omit hB in
theorem okArg_one {l : List Shp} {a : AV} (h : okR l [a]) : okArg (false, l) a := by
  match l with
  | [] => simp [okR] at h
  | [s] =>
    simp only [okR, List.cons.injEq] at h
    obtain ⟨_, _, ⟨rfl, rfl⟩, h, _⟩ := h
    exact h
  | s :: s2 :: ss =>
    simp only [okR, List.cons.injEq] at h
    obtain ⟨_, _, ⟨rfl, rfl⟩, _, _, _, h, _⟩ := h
    cases h

def okArgs : List (Bool × List Shp) → List AV → Prop
  | [], l => l = []
  | s :: ss, l => ∃ v l', l = v :: l' ∧ okArg s v ∧ okArgs ss l'

theorem arg_open {k : Nat} {t : TypeId} {τ : Bool × List Shp} (ht : argShp P k t = some τ) {base : Nat} {v : Value} (hv : Value.okWide P W .any base t v) {d : DataW H} {ps : List MemPlace} (h : DataW.Trod enc P W 0 sp held t v d ps) :
    ∃ a, okArg τ a ∧ vrep W a (Whl W) (Whl W) noInj v ∧ avB a ≤ b d := by
  obtain ⟨n, hn⟩ := h
  have one : ∀ {l : List Shp}, shpOf P k t = some l → v.cells.toList = [v] → τ = (false, l) → ∃ a, okArg τ a ∧ vrep W a (Whl W) (Whl W) noInj v ∧ avB a ≤ b d := by
    intro l hl hc hτ
    obtain ⟨row, k1, k2, k3, k4⟩ := trod_row hB k t l hl n _ _ hn
    rw [hc] at k2
    have hlen := listRep_len k2
    match row, hlen with
    | [a], _ =>
      simp only [listRep] at k2
      obtain ⟨u, us, e, k5, rfl⟩ := k2
      simp only [List.cons.injEq, and_true] at e
      subst e; subst hτ
      exact ⟨a, okArg_one k1, k5, by simpa [avBL] using k4⟩
  unfold argShp at ht
  split at ht
  · rename_i fs e
    cases hl : shpOf P k t with
    | none => rw [hl] at ht; cases ht
    | some l =>
      rw [hl] at ht
      simp only [Option.map_some, Option.some.injEq] at ht
      subst ht
      obtain ⟨cs, rfl, _⟩ := okWide_struct e hv
      obtain ⟨row, k1, k2, k3, k4⟩ := trod_row hB k t l hl n _ _ hn
      exact ⟨.agg row, ⟨row, rfl, k1⟩, by simp only [vrep]; exact ⟨cs.toList, by simp, by simpa [Value.cells] using k2⟩, by simpa [avB] using k4⟩
  · rename_i dd hne e
    cases hl : shpOf P k t with
    | none => rw [hl] at ht; cases ht
    | some l =>
      rw [hl] at ht
      simp only [Option.map_some, Option.some.injEq] at ht
      refine one hl ?_ ht.symm
      cases dd with
      | int ki => obtain ⟨_, rfl⟩ := okWide_int e hv; rfl
      | bool => obtain ⟨_, rfl⟩ := okWide_bool e hv; rfl
      | string => obtain ⟨_, rfl⟩ := okWide_string e hv; rfl
      | slice el => obtain ⟨_, _, _, rfl⟩ := okWide_slice e hv; rfl
      | struct fs => exact absurd rfl (hne fs)
      | _ =>
        cases k with
        | zero => simp [shpOf] at hl
        | succ k => simp [shpOf, e] at hl
  · cases ht

theorem args_open {k : Nat} {base : Nat} : ∀ {ts : List TypeId} {τs : List (Bool × List Shp)}, ts.map (argShp P k) = τs.map some → ∀ {vs : List Value} {ds : List (DataW H)} {ps : List MemPlace},
    (∀ (j : Nat) t v, ts[j]? = some t → vs[j]? = some v → Value.okWide P W .any base t v) → DataW.TrodAll enc P W 0 sp held ts vs ds ps →
    ∃ as, okArgs τs as ∧ listRep W as (Whl W) (Whl W) noInj vs ∧ avBL as ≤ bA ds
  | [], τs, hτ, _, _, _, _, h => by
    obtain ⟨rfl, rfl, rfl⟩ := trodAll_nil h
    match τs, hτ with
    | [], _ => exact ⟨[], rfl, by simp [listRep], by simp [avBL]⟩
  | t :: ts, τs, hτ, _, _, _, hv, h => by
    obtain ⟨v, vs, d, ds, p, q, rfl, rfl, rfl, h1, h2⟩ := trodAll_cons h
    match τs, hτ with
    | τ :: τs, hτ =>
      simp only [List.map_cons, List.cons.injEq] at hτ
      obtain ⟨a, k1, k2, k3⟩ := arg_open hB hτ.1 (hv 0 t v rfl rfl) h1
      obtain ⟨as, m1, m2, m3⟩ := args_open hτ.2 (fun j t v h1 h2 => hv (j + 1) t v (by simpa using h1) (by simpa using h2)) h2
      exact ⟨a :: as, ⟨a, as, rfl, k1, m1⟩, by simp only [listRep]; exact ⟨v, vs, rfl, k2, m2⟩, by simp only [avBL, hB.cons]; omega⟩
end
end Go.Eng
