/- The run's own blocks, and the operations that read them or make one. -/
import Derived.Test.YtoeogoeahmlgnaaGreatDoorEngE
import Derived.Laws.IdiomStrings
import Derived.Laws.BytesString
set_option linter.all false
namespace Go.Eng
open Go.RowKit

abbrev Sig := Nat → Option Blk

/-- How many versions of a block there may be. -/
def Blk.len : Blk → Nat
  | .arr rows _ _ _ => rows.length
  | _ => 0

/-- A block, and what it may still become: more rows. -/
def Grow : Blk → Blk → Prop
  | .arr rows sz wep pr, b => ∃ more, b = .arr (rows ++ more) sz wep pr
  | a, b => b = a
theorem Grow.refl : ∀ a : Blk, Grow a a
  | .arr .. => ⟨[], by simp⟩
  | .map _ => rfl
  | .iter .. => rfl
  | .dead => rfl
theorem Grow.trans {a b c : Blk} (h : Grow a b) (k : Grow b c) : Grow a c := by
  cases a with
  | arr rows sz wep pr =>
    obtain ⟨m, rfl⟩ := h
    obtain ⟨m', rfl⟩ := k
    exact ⟨m ++ m', by rw [List.append_assoc]⟩
  | map es => simp only [Grow] at h; subst h; exact k
  | iter _ _ _ => simp only [Grow] at h; subst h; exact k
  | dead => simp only [Grow] at h; subst h; exact k
theorem Grow.len {a b : Blk} (h : Grow a b) : a.len ≤ b.len := by
  cases a with
  | arr rows sz wep pr => obtain ⟨m, rfl⟩ := h; simp [Blk.len]
  | map es => simp only [Grow] at h; subst h; exact Nat.le_refl _
  | iter _ _ _ => simp only [Grow] at h; subst h; exact Nat.le_refl _
  | dead => simp only [Grow] at h; subst h; exact Nat.le_refl _

/-- The view shows the block, or what it becomes. -/
def Holds (σ : Sig) (b : Nat) (blk : Blk) : Prop := ∃ blk', σ b = some blk' ∧ Grow blk blk'
theorem Holds.of {σ : Sig} {b : Nat} {blk : Blk} (h : σ b = some blk) : Holds σ b blk := ⟨blk, h, Grow.refl _⟩
def Ext (S : Store) (σ : Sig) : Prop := ∀ b blk, S[b]? = some blk → Holds σ b blk
theorem Holds.arr {σ : Sig} {b : Nat} {rows : List (List AV)} {sz wep : Nat} {pr : Bool} (h : Holds σ b (.arr rows sz wep pr)) : ∃ more, σ b = some (.arr (rows ++ more) sz wep pr) := by
  obtain ⟨blk', h1, m, rfl⟩ := h
  exact ⟨m, h1⟩
theorem Holds.map {σ : Sig} {b : Nat} {es : List (AV × AV)} (h : Holds σ b (.map es)) : σ b = some (.map es) := by
  obtain ⟨blk', h1, h2⟩ := h
  simp only [Grow] at h2
  subst h2
  exact h1

theorem Holds.iter {σ : Sig} {b mb n : Nat} {dn : Bool} (h : Holds σ b (.iter mb n dn)) : σ b = some (.iter mb n dn) := by
  obtain ⟨blk', h1, h2⟩ := h
  simp only [Grow] at h2
  subst h2
  exact h1

/-- A map's entries. -/
def entRep (w : World) (T : Area) : List (AV × AV) → List MapEntry → Prop
  | [], ms => ms = []
  | e :: es, ms => ∃ m ms', ms = m :: ms' ∧ vrep w e.1 T T noInj m.key ∧ vrep w e.2 T T noInj m.val ∧ entRep w T es ms'

def BlkRep (w : World) (T B : Area) (I : Inj) (ob : Option Blk) (e g gs : Nat) : Prop :=
  match ob with
  | some (.arr rows sz wep pr) => e ≤ rows.length ∧ e * sz ≤ gs ∧ (∃ c ty, w.heap[g]? = some (.cells c ty (0, 0)) ∧ c.size = gs) ∧ (wep ≤ e → rowsRep w (rows.take e) T (if pr then T else B) (if pr then noInj else I) g 0 sz)
  | some (.map es) => e = 0 ∧ ∃ ms clock, w.heap[g]? = some (.map ms clock) ∧ entRep w T es ms.toList ∧ clock = ms.size ∧ ∀ (i : Nat) (m : MapEntry), ms[i]? = some m → m.born = i
  | some (.iter mb n dn) => e = 0 ∧ ∃ gm gsm, I mb 0 = some (gm, gsm) ∧ w.heap[g]? = some (.mapIter (some gm) n (if dn then #[0] else #[]) n)
  | _ => False

structure Rel [Known] (base : Nat) (T B : Area) (I : Inj) (S : Sig) (w : World) : Prop where
  base_le : base ≤ w.heap.size
  TB : ∀ g, T g → B g
  Blt : ∀ g, B g → g < w.heap.size
  own : ∀ b e g gs, I b e = some (g, gs) → base ≤ g ∧ ¬ B g ∧ g < w.heap.size
  excl : ∀ b e b' e' g gs gs', I b e = some (g, gs) → I b' e' = some (g, gs') → b = b'
  blk : ∀ b e g gs, I b e = some (g, gs) → BlkRep w T B I (S b) e g gs
  known : ∀ g o, Known.blk g = some o → B g ∧ w.heap[g]? = some o

/-- From one state of the run to a later one. -/
structure Step (base : Nat) (T B : Area) (I : Inj) (w : World) (T' B' : Area) (I' : Inj) (w' : World) : Prop where
  mono : Mono w T B I w' T' B' I'
  below : Below base w w'
  newT : ∀ g, T' g → T g ∨ w.heap.size ≤ g
  newB : ∀ g, B' g → B g ∨ w.heap.size ≤ g

section
variable [Known] {base : Nat} {T B : Area} {I : Inj} {S : Sig} {w w' : World}

omit [Known] in
theorem Step.refl : Step base T B I w T B I w := ⟨⟨fun _ h => h, fun _ h => h, fun _ _ _ h => h, fun _ _ => rfl⟩, Below.refl _ _, fun _ h => .inl h, fun _ h => .inl h⟩

omit [Known] in
theorem Step.trans {T1 B1 T2 B2 : Area} {I1 I2 : Inj} {w1 w2 : World} (h : Step base T B I w T1 B1 I1 w1) (k : Step base T1 B1 I1 w1 T2 B2 I2 w2) : Step base T B I w T2 B2 I2 w2 := by
  have hs := h.below.size
  refine ⟨⟨fun g hg => k.mono.tT g (h.mono.tT g hg), fun g hg => k.mono.tB g (h.mono.tB g hg), fun b e p hp => k.mono.tI b e p (h.mono.tI b e p hp), fun g hg => (k.mono.tw g (h.mono.tB g hg)).trans (h.mono.tw g hg)⟩, h.below.trans k.below, ?_, ?_⟩
  · intro g hg
    rcases k.newT g hg with h1 | h1
    · exact h.newT g h1
    · exact .inr (Nat.le_trans hs h1)
  · intro g hg
    rcases k.newB g hg with h1 | h1
    · exact h.newB g h1
    · exact .inr (Nat.le_trans hs h1)

omit [Known] in
theorem vrep_heap {w w' : World} {T B : Area} {I : Inj} (v : AV) {u : Value} (hw : w'.heap = w.heap) (hTB : ∀ g, T g → B g) (h : vrep w v T B I u) : vrep w' v T B I u :=
  vrep_mono v ⟨fun _ h => h, fun _ h => h, fun _ _ _ h => h, fun g _ => by rw [hw]⟩ hTB h

omit [Known] in
theorem mono_pr {w w' : World} {T B T' B' : Area} {I I' : Inj} (pr : Bool) (m : Mono w T B I w' T' B' I') (hTB : ∀ g, T g → B g) :
    Mono w T (if pr then T else B) (if pr then noInj else I) w' T' (if pr then T' else B') (if pr then noInj else I') := by
  cases pr
  · exact m
  · exact ⟨m.tT, m.tT, fun _ _ _ h => h, fun g hg => m.tw g (hTB g hg)⟩

omit [Known] in
theorem TB_pr {T B : Area} (pr : Bool) (hTB : ∀ g, T g → B g) : ∀ g, T g → (if pr then T else B) g := by
  cases pr
  · exact hTB
  · exact fun _ h => h

omit [Known] in
theorem cell?_heap {w w' : World} (hw : w'.heap = w.heap) (a : Addr) : w'.cell? a = w.cell? a := by simp [World.cell?, hw]

omit [Known] in
theorem entRep_mono {T' B B' : Area} {I I' : Inj} (m : Mono w T B I w' T' B' I') (hTB : ∀ g, T g → B g) : ∀ {es : List (AV × AV)} {ms : List MapEntry}, entRep w T es ms → entRep w' T' es ms
  | [], _, h => h
  | e :: es, ms, h => by
    simp only [entRep] at h ⊢
    obtain ⟨m0, ms', h1, h2, h3, h4⟩ := h
    have mm : Mono w T T noInj w' T' T' noInj := ⟨m.tT, m.tT, fun _ _ _ h => h, fun g hg => m.tw g (hTB g hg)⟩
    exact ⟨m0, ms', h1, vrep_mono _ mm (fun _ h => h) h2, vrep_mono _ mm (fun _ h => h) h3, entRep_mono m hTB h4⟩

omit [Known] in
theorem BlkRep.mono {T' B B' : Area} {I I' : Inj} {ob : Option Blk} {e g gs : Nat} (m : Mono w T B I w' T' B' I') (hTB : ∀ g, T g → B g) (hg : w'.heap[g]? = w.heap[g]?) (h : BlkRep w T B I ob e g gs) : BlkRep w' T' B' I' ob e g gs := by
  unfold BlkRep at h ⊢
  split at h
  · obtain ⟨h1, h2, ⟨c, ty, h3, h4⟩, h5⟩ := h
    exact ⟨h1, h2, ⟨c, ty, hg.trans h3, h4⟩, fun hw => rowsRep_mono _ (mono_pr _ m hTB) (TB_pr _ hTB) (fun o => cell?_of_heap hg) (h5 hw)⟩
  · obtain ⟨h1, ms, clock, h2, h3, h4⟩ := h
    exact ⟨h1, ms, clock, hg.trans h2, entRep_mono m hTB h3, h4⟩
  · obtain ⟨h1, gm, gsm, h2, h3⟩ := h
    exact ⟨h1, gm, gsm, m.tI _ _ _ h2, hg.trans h3⟩
  · exact h

omit [Known] in
theorem BlkRep.grow {B : Area} {I : Inj} {ob ob' : Option Blk} {e g gs : Nat} (hb : ∀ blk, ob = some blk → ∃ blk', ob' = some blk' ∧ Grow blk blk') (h : BlkRep w T B I ob e g gs) : BlkRep w T B I ob' e g gs := by
  unfold BlkRep at h
  split at h
  · obtain ⟨_, h1, m, rfl⟩ := hb _ rfl
    subst h1
    obtain ⟨h1, h2, h3, h5⟩ := h
    exact ⟨by simp; omega, h2, h3, fun hw => by rw [List.take_append_of_le_length h1]; exact h5 hw⟩
  · obtain ⟨_, h1, h2⟩ := hb _ rfl
    simp only [Grow] at h2
    subst h2; subst h1
    exact h
  · obtain ⟨_, h1, h2⟩ := hb _ rfl
    simp only [Grow] at h2
    subst h2; subst h1
    exact h
  · exact h.elim

theorem Rel.ownA (h : Rel base T B I S w) {b e g gs : Nat} {rows : List (List AV)} {sz wep : Nat} {pr : Bool} (hi : I b e = some (g, gs)) (hS : S b = some (.arr rows sz wep pr)) : base ≤ g ∧ ¬ B g ∧ ∃ c ty, w.heap[g]? = some (.cells c ty (0, 0)) ∧ c.size = gs := by
  have h1 := h.own _ _ _ _ hi
  have h2 := h.blk _ _ _ _ hi
  rw [hS] at h2
  exact ⟨h1.1, h1.2.1, h2.2.2.1⟩
theorem Rel.blkA (h : Rel base T B I S w) {b e g gs : Nat} {rows : List (List AV)} {sz wep : Nat} {pr : Bool} (hi : I b e = some (g, gs)) (hS : S b = some (.arr rows sz wep pr)) : e ≤ rows.length ∧ e * sz ≤ gs ∧ (wep ≤ e → rowsRep w (rows.take e) T (if pr then T else B) (if pr then noInj else I) g 0 sz) := by
  have h2 := h.blk _ _ _ _ hi
  rw [hS] at h2
  exact ⟨h2.1, h2.2.1, h2.2.2.2⟩

/-- A draw. -/
theorem Rel.heap (h : Rel base T B I S w) (hw : w'.heap = w.heap) : Rel base T B I S w' :=
  ⟨by rw [hw]; exact h.base_le, h.TB, fun g hg => by rw [hw]; exact h.Blt g hg, fun b e g gs hi => by rw [hw]; exact h.own b e g gs hi, h.excl,
    fun b e g gs hi => (h.blk b e g gs hi).mono ⟨fun _ h => h, fun _ h => h, fun _ _ _ h => h, fun g _ => by rw [hw]⟩ h.TB (by rw [hw]), fun g o k => by rw [hw]; exact h.known g o k⟩

/-- A view that shows what the blocks become. -/
theorem Rel.grow {S' : Sig} (h : Rel base T B I S w) (hS : ∀ b e p, I b e = some p → ∀ blk, S b = some blk → Holds S' b blk) : Rel base T B I S' w :=
  ⟨h.base_le, h.TB, h.Blt, h.own, h.excl, fun b e g gs hi => (h.blk b e g gs hi).grow (hS b e _ hi), h.known⟩

/-- Another view of the blocks that agrees on those that are there. -/
theorem Rel.view {S' : Sig} (h : Rel base T B I S w) (hS : ∀ b e p, I b e = some p → S' b = S b) : Rel base T B I S' w :=
  ⟨h.base_le, h.TB, h.Blt, h.own, h.excl, fun b e g gs hi => by rw [hS b e _ hi]; exact h.blk b e g gs hi, h.known⟩

theorem Rel.lt (h : Rel base T B I S w) {b e g gs : Nat} (hi : I b e = some (g, gs)) : g < w.heap.size := (h.own _ _ _ _ hi).2.2

/-- What was there stands; new memory lies behind it. -/
theorem Rel.quiet {T' B' : Area} (h : Rel base T B I S w) (hb : Below w.heap.size w w') (hT : ∀ g, T g → T' g) (hB : ∀ g, B g → B' g) (nT : ∀ g, T' g → B' g) (nB : ∀ g, B' g → B g ∨ (w.heap.size ≤ g ∧ g < w'.heap.size)) :
    Rel base T' B' I S w' := by
  refine ⟨Nat.le_trans h.base_le hb.size, nT, fun g hg => ?_, fun b e g gs hi => ?_, h.excl, fun b e g gs hi => ?_, fun g o k => ⟨hB g (h.known g o k).1, by rw [hb.block g (h.Blt g (h.known g o k).1)]; exact (h.known g o k).2⟩⟩
  · rcases nB g hg with h1 | h1
    · exact Nat.lt_of_lt_of_le (h.Blt g h1) hb.size
    · exact h1.2
  · obtain ⟨h1, h2, h3⟩ := h.own b e g gs hi
    refine ⟨h1, fun hg => ?_, Nat.lt_of_lt_of_le h3 hb.size⟩
    rcases nB g hg with h4 | h4
    · exact h2 h4
    · omega
  · exact (h.blk b e g gs hi).mono ⟨hT, hB, fun _ _ _ h => h, fun g hg => hb.block g (h.Blt g hg)⟩ h.TB (hb.block g (h.lt hi))

/-- One place more. -/
def Inj.put (I : Inj) (b e g gs : Nat) : Inj := fun b' e' => if b' = b ∧ e' = e then some (g, gs) else I b' e'

omit [Known] in
theorem Inj.put_self {I : Inj} {b e g gs : Nat} : Inj.put I b e g gs b e = some (g, gs) := by simp [Inj.put]

omit [Known] in
theorem Inj.put_old {I : Inj} {b e g gs : Nat} (hn : I b e = none) : ∀ b' e' p, I b' e' = some p → Inj.put I b e g gs b' e' = some p := by
  intro b' e' p h
  unfold Inj.put
  split
  · rename_i hc; obtain ⟨rfl, rfl⟩ := hc; rw [hn] at h; cases h
  · exact h

/-- A new place: a block of the world that nobody else knows. -/
theorem Rel.place (h : Rel base T B I S w) {b e g gs : Nat} (hn : I b e = none) (hg : base ≤ g) (hnB : ¬ B g) (hlt : g < w.heap.size) (hown : ∀ b' e gs, I b' e = some (g, gs) → b' = b) (hblk : BlkRep w T B (Inj.put I b e g gs) (S b) e g gs) :
    Rel base T B (Inj.put I b e g gs) S w := by
  have hm : Mono w T B I w T B (Inj.put I b e g gs) := ⟨fun _ h => h, fun _ h => h, Inj.put_old hn, fun _ _ => rfl⟩
  refine ⟨h.base_le, h.TB, h.Blt, fun b' e' g' gs' hi => ?_, fun b1 e1 b2 e2 g' s1 s2 h1 h2 => ?_, fun b' e' g' gs' hi => ?_, h.known⟩
  · unfold Inj.put at hi
    split at hi
    · injection hi with hi; injection hi with q1 q2; subst q1 q2
      exact ⟨hg, hnB, hlt⟩
    · exact h.own _ _ _ _ hi
  · unfold Inj.put at h1 h2
    split at h1 <;> split at h2
    · rename_i c1 c2; rw [c1.1, c2.1]
    · rename_i c1 _
      injection h1 with h1; injection h1 with q1 _; subst q1
      rw [c1.1, hown _ _ _ h2]
    · rename_i _ c2
      injection h2 with h2; injection h2 with q1 _; subst q1
      rw [c2.1, hown _ _ _ h1]
    · exact h.excl _ _ _ _ _ _ _ h1 h2
  · by_cases hc' : b' = b ∧ e' = e
    · obtain ⟨rfl, rfl⟩ := hc'
      rw [Inj.put_self] at hi
      injection hi with hi; injection hi with q1 q2; subst q1 q2
      exact hblk
    · have hi2 : I b' e' = some (g', gs') := by
        unfold Inj.put at hi
        rw [if_neg hc'] at hi
        exact hi
      exact (h.blk _ _ _ _ hi2).mono hm h.TB rfl

/-- A new version's place. -/
theorem Rel.version (h : Rel base T B I S w) {b g : Nat} {rows : List (List AV)} {sz wep : Nat} {pr : Bool} {c : Array Value} {ty : TypeId} (hn : I b rows.length = none) (hS : Holds S b (.arr rows sz wep pr))
    (hg : base ≤ g) (hnB : ¬ B g) (hown : ∀ b' e gs, I b' e = some (g, gs) → b' = b) (hc : w.heap[g]? = some (.cells c ty (0, 0))) (hsz : rows.length * sz ≤ c.size) (hrows : rowsRep w rows T (if pr then T else B) (if pr then noInj else I) g 0 sz) :
    Rel base T B (Inj.put I b rows.length g c.size) S w ∧ Step base T B I w T B (Inj.put I b rows.length g c.size) w := by
  have hm : Mono w T B I w T B (Inj.put I b rows.length g c.size) := ⟨fun _ h => h, fun _ h => h, Inj.put_old hn, fun _ _ => rfl⟩
  obtain ⟨more, hS'⟩ := hS.arr
  refine ⟨h.place hn hg hnB (Array.getElem?_eq_some_iff.1 hc).1 hown ?_, ⟨hm, Below.refl _ _, fun _ h => .inl h, fun _ h => .inl h⟩⟩
  rw [hS']
  exact ⟨by simp, hsz, ⟨c, ty, hc, rfl⟩, fun _ => by rw [List.take_left]; exact rowsRep_mono rows (mono_pr pr hm h.TB) (TB_pr pr h.TB) (fun _ => rfl) hrows⟩

/-- A new block of the run's own: a block of the world that nobody else knows. -/
theorem Rel.newBlk (h : Rel base T B I S w) {b g : Nat} {rows : List (List AV)} {sz : Nat} {pr : Bool} {c : Array Value} {ty : TypeId} (hfresh : I b rows.length = none) (hS : Holds S b (.arr rows sz 0 pr))
    (hg : base ≤ g) (hnB : ¬ B g) (hown : ∀ b e gs, I b e ≠ some (g, gs)) (hc : w.heap[g]? = some (.cells c ty (0, 0))) (hsz : rows.length * sz ≤ c.size) (hrows : rowsRep w rows T (if pr then T else B) (if pr then noInj else I) g 0 sz) :
    Rel base T B (Inj.put I b rows.length g c.size) S w :=
  (h.version hfresh hS hg hnB (fun b' e gs hi => absurd hi (hown b' e gs)) hc hsz hrows).1

omit [Known] in
/-- A new block of cells in the world. -/
theorem heap_alloc_ne (o : Obj) (g : Nat) (h : g < w.heap.size) : (w.alloc o).heap[g]? = w.heap[g]? := Below.heap_alloc w o g h

theorem Rel.alloc (h : Rel base T B I S w) (o : Obj) : Rel base T B I S (w.alloc o) :=
  h.quiet ((Below.refl _ w).alloc (Nat.le_refl _) o) (fun _ h => h) (fun _ h => h) h.TB (fun _ h => .inl h)

theorem Step.quiet {T' B' : Area} (h : Rel base T B I S w) (hb : Below w.heap.size w w') (hT : ∀ g, T g → T' g) (hB : ∀ g, B g → B' g) (nT : ∀ g, T' g → T g ∨ w.heap.size ≤ g) (nB : ∀ g, B' g → B g ∨ w.heap.size ≤ g) : Step base T B I w T' B' I w' :=
  ⟨⟨hT, hB, fun _ _ _ h => h, fun g hg => hb.block g (h.Blt g hg)⟩, hb.mono h.base_le, nT, nB⟩

omit [Known] in
theorem Step.inj {b e g gs : Nat} (hn : I b e = none) : Step base T B I w T B (Inj.put I b e g gs) w :=
  ⟨⟨fun _ h => h, fun _ h => h, Inj.put_old hn, fun _ _ => rfl⟩, Below.refl _ _, fun _ h => .inl h, fun _ h => .inl h⟩

/-- A block made out of cells at hand. -/
theorem Rel.made (h : Rel base T B I S w) {b : Nat} {rows : List (List AV)} {sz : Nat} {pr : Bool} {c : Array Value} {us : List Value} (ty : TypeId) (hfresh : I b rows.length = none) (hS : Holds S b (.arr rows sz 0 pr))
    (hl : ∀ r ∈ rows, r.length = sz) (hus : listRep w rows.flatten T (if pr then T else B) (if pr then noInj else I) us) (h1 : ∀ u ∈ us, u.oneCell' = true) (hc : c.toList.take us.length = us) :
    Rel base T B (Inj.put I b rows.length w.heap.size c.size) S (w.alloc (.cells c ty)) ∧ Step base T B I w T B (Inj.put I b rows.length w.heap.size c.size) (w.alloc (.cells c ty)) := by
  have hA := h.alloc (.cells c ty)
  have hnew := heap_alloc_new w (.cells c ty)
  have hmono : Mono w T B I (w.alloc (.cells c ty)) T B I := ⟨fun _ h => h, fun _ h => h, fun _ _ _ h => h, fun g hg => heap_alloc_ne _ _ (h.Blt g hg)⟩
  have hmono' := mono_pr pr hmono h.TB
  have hlen : us.length = rows.length * sz := by rw [listRep_len hus, flat_len hl]
  have hle : us.length ≤ c.size := by
    have : (c.toList.take us.length).length = us.length := by rw [hc]
    simp at this; omega
  refine ⟨hA.newBlk hfresh hS h.base_le (fun hB => absurd (h.Blt _ hB) (Nat.lt_irrefl _)) (fun b e gs hi => absurd (h.lt hi) (Nat.lt_irrefl _)) hnew (by omega) ?_, ?_⟩
  · rw [rowsRep_flat]
    refine ⟨hl, cellsRep_of_list (listRep_mono _ hmono' (TB_pr pr h.TB) hus) h1 fun j u hj => ?_⟩
    rw [cell_of_row _ _ _ _ _ _ hnew, Nat.zero_add]
    rw [← hc, List.getElem?_take] at hj
    split at hj
    · simpa using hj
    · cases hj
  · exact (Step.quiet h ((Below.refl _ w).alloc (Nat.le_refl _) _) (fun _ h => h) (fun _ h => h) (fun _ h => .inl h) (fun _ h => .inl h)).trans (Step.inj hfresh)
end
end Go.Eng
