/- What the trees of the small machine stand for in the model's memory, and that this goes on as long as that memory stands. -/
import Derived.Test.YtoeogoeahmlgnaaGreatDoorEngA
set_option linter.all false
namespace Go.Eng
open Go.RowKit

abbrev Area := Nat → Prop
abbrev Inj := Nat → Nat → Option (Nat × Nat)
def noInj : Inj := fun _ _ => none

def pick (st : Bool) (T B : Area) : Area := fun g => if st then T g else B g

mutual
def vrep (w : World) : AV → Area → Area → Inj → Value → Prop
  | .int k n, _, _, _, u => u = .int k n
  | .bool b, _, _, _, u => u = .bool b
  | .str s, _, _, _, u => u = .string s
  | .flat v, _, _, _, u => u = v
  | .agg cs, T, B, I, u => ∃ us : List Value, u = .agg us.toArray ∧ listRep w cs T B I us
  | .tup cs, T, B, I, u => ∃ us : List Value, u = .tuple us.toArray ∧ listRep w cs T B I us
  | .tsl st sz rows, T, B, _, u => ∃ ao cap, u = .slice ao rows.length cap ∧ rows.length ≤ cap ∧ cap ≤ maxLen ∧ (ao = none → cap = 0) ∧
      (rows ≠ [] → ∃ g off, ao = some ⟨g, off, none⟩ ∧ pick st T B g ∧ rowsRep w rows T T noInj g off sz)
  | .tptr st row off, T, B, _, u => ∃ g o, u = .pointer (some ⟨g, o + off, none⟩) ∧ pick st T B g ∧ cellsRep w row T (pick st T B) noInj g o
  | .esl, _, _, _, u => ∃ ao, u = .slice ao 0 0
  | .sl b e off len sz, _, _, I, u => (e = 0 ∧ off = 0 ∧ len = 0 ∧ ∃ ao, u = .slice ao 0 0) ∨
      ∃ g gs cap, I b e = some (g, gs) ∧ u = .slice (some ⟨g, off * sz, none⟩) len cap ∧ len ≤ cap ∧ cap ≤ maxLen ∧ (off + cap) * sz ≤ gs
  | .ptr b e sz row off, _, _, I, u => ∃ g gs, I b e = some (g, gs) ∧ u = .pointer (some ⟨g, row * sz + off, none⟩)
  | .osl .., _, _, _, _ => False
  | .fn f caps, T, B, I, u => ∃ us : List Value, u = .func (.func f) #[] us.toArray ∧ listRep w caps T B I us
  | .iface t x, T, B, I, u => ∃ v, u = .iface t v ∧ vrep w x T B I v
  | .mp b, _, _, I, u => ∃ g gs, I b 0 = some (g, gs) ∧ u = .map (some g)
  | .it b, _, _, I, u => ∃ g gs, I b 0 = some (g, gs) ∧ u = .pointer (some ⟨g, 0, none⟩)
  | .junk, _, _, _, _ => True
def listRep (w : World) : List AV → Area → Area → Inj → List Value → Prop
  | [], _, _, _, us => us = []
  | c :: cs, T, B, I, us => ∃ u us', us = u :: us' ∧ vrep w c T B I u ∧ listRep w cs T B I us'
def cellsRep (w : World) : List AV → Area → Area → Inj → Nat → Nat → Prop
  | [], _, _, _, _, _ => True
  | c :: cs, T, B, I, g, off => (∃ u, w.cell? ⟨g, off, none⟩ = some u ∧ u.oneCell' = true ∧ vrep w c T B I u) ∧ cellsRep w cs T B I g (off + 1)
def rowsRep (w : World) : List (List AV) → Area → Area → Inj → Nat → Nat → Nat → Prop
  | [], _, _, _, _, _, _ => True
  | r :: rs, T, B, I, g, off, sz => r.length = sz ∧ cellsRep w r T B I g off ∧ rowsRep w rs T B I g (off + sz) sz
end

/-- One state of memory behind another: what is laid down stands. -/
structure Mono (w : World) (T B : Area) (I : Inj) (w' : World) (T' B' : Area) (I' : Inj) : Prop where
  tT : ∀ g, T g → T' g
  tB : ∀ g, B g → B' g
  tI : ∀ b e p, I b e = some p → I' b e = some p
  tw : ∀ g, B g → w'.heap[g]? = w.heap[g]?

theorem cell?_of_heap {w w' : World} {g o : Nat} (h : w'.heap[g]? = w.heap[g]?) : w'.cell? ⟨g, o, none⟩ = w.cell? ⟨g, o, none⟩ := by
  simp [World.cell?, h]

theorem pick_sub {st : Bool} {T B : Area} (h : ∀ g, T g → B g) : ∀ g, pick st T B g → B g := by
  intro g hg; unfold pick at hg; split at hg
  · exact h g hg
  · exact hg

theorem sub_pick {st : Bool} {T B : Area} (h : ∀ g, T g → B g) : ∀ g, T g → pick st T B g := by
  intro g hg; unfold pick; split
  · exact hg
  · exact h g hg

theorem pick_mono {st : Bool} {T B T' B' : Area} (h : ∀ g, T g → T' g) (k : ∀ g, B g → B' g) : ∀ g, pick st T B g → pick st T' B' g := by
  intro g hg; unfold pick at *; split at hg <;> simp_all

mutual
theorem vrep_mono {w w' : World} : ∀ (v : AV) {T B T' B' : Area} {I I' : Inj} {u : Value}, Mono w T B I w' T' B' I' → (∀ g, T g → B g) → vrep w v T B I u → vrep w' v T' B' I' u
  | .int .., _, _, _, _, _, _, _, _, _, h => h
  | .bool .., _, _, _, _, _, _, _, _, _, h => h
  | .str .., _, _, _, _, _, _, _, _, _, h => h
  | .flat .., _, _, _, _, _, _, _, _, _, h => h
  | .agg cs, _, _, _, _, _, _, _, m, hTB, h => by
    simp only [vrep] at h ⊢
    obtain ⟨us, h1, h2⟩ := h
    exact ⟨us, h1, listRep_mono cs m hTB h2⟩
  | .tup cs, _, _, _, _, _, _, _, m, hTB, h => by
    simp only [vrep] at h ⊢
    obtain ⟨us, h1, h2⟩ := h
    exact ⟨us, h1, listRep_mono cs m hTB h2⟩
  | .tsl st sz rows, T, B, T', B', I, I', u, m, hTB, h => by
    simp only [vrep] at h ⊢
    obtain ⟨ao, cap, h1, h2, h3, h4, h5⟩ := h
    refine ⟨ao, cap, h1, h2, h3, h4, fun hne => ?_⟩
    obtain ⟨g, off, h6, h7, h8⟩ := h5 hne
    have hp := pick_sub (st := st) hTB
    exact ⟨g, off, h6, pick_mono m.tT m.tB g h7, rowsRep_mono rows ⟨m.tT, m.tT, fun _ _ _ h => h, fun g hg => m.tw g (hTB g hg)⟩ (fun _ h => h) (fun o => cell?_of_heap (m.tw g (hp g h7))) h8⟩
  | .tptr st row off, T, B, T', B', I, I', u, m, hTB, h => by
    simp only [vrep] at h ⊢
    obtain ⟨g, o, h1, h2, h3⟩ := h
    have hp := pick_sub (st := st) hTB
    exact ⟨g, o, h1, pick_mono m.tT m.tB g h2, cellsRep_mono row ⟨m.tT, pick_mono m.tT m.tB, fun _ _ _ h => h, fun g hg => m.tw g (hp g hg)⟩ (sub_pick hTB) (fun o => cell?_of_heap (m.tw g (hp g h2))) h3⟩
  | .esl, _, _, _, _, _, _, _, _, _, h => by simp only [vrep] at h ⊢; exact h
  | .sl b e off len sz, _, _, _, _, _, _, _, m, _, h => by
    simp only [vrep] at h ⊢
    rcases h with h | ⟨g, gs, cap, h1, h2⟩
    · exact .inl h
    · exact .inr ⟨g, gs, cap, m.tI _ _ _ h1, h2⟩
  | .ptr b e sz row off, _, _, _, _, _, _, _, m, _, h => by
    simp only [vrep] at h ⊢
    obtain ⟨g, gs, h1, h2⟩ := h
    exact ⟨g, gs, m.tI _ _ _ h1, h2⟩
  | .osl .., _, _, _, _, _, _, _, _, _, h => by simp only [vrep] at h
  | .fn f cs, _, _, _, _, _, _, _, m, hTB, h => by
    simp only [vrep] at h ⊢
    obtain ⟨us, h1, h2⟩ := h
    exact ⟨us, h1, listRep_mono cs m hTB h2⟩
  | .iface t x, _, _, _, _, _, _, _, m, hTB, h => by
    simp only [vrep] at h ⊢
    obtain ⟨v, h1, h2⟩ := h
    exact ⟨v, h1, vrep_mono x m hTB h2⟩
  | .mp b, _, _, _, _, _, _, _, m, _, h => by
    simp only [vrep] at h ⊢
    obtain ⟨g, gs, h1, h2⟩ := h
    exact ⟨g, gs, m.tI _ _ _ h1, h2⟩
  | .it b, _, _, _, _, _, _, _, m, _, h => by
    simp only [vrep] at h ⊢
    obtain ⟨g, gs, h1, h2⟩ := h
    exact ⟨g, gs, m.tI _ _ _ h1, h2⟩
  | .junk, _, _, _, _, _, _, _, _, _, _ => by simp only [vrep]
theorem listRep_mono {w w' : World} : ∀ (cs : List AV) {T B T' B' : Area} {I I' : Inj} {us : List Value}, Mono w T B I w' T' B' I' → (∀ g, T g → B g) → listRep w cs T B I us → listRep w' cs T' B' I' us
  | [], _, _, _, _, _, _, _, _, _, h => by simp only [listRep] at h ⊢; exact h
  | c :: cs, _, _, _, _, _, _, _, m, hTB, h => by
    simp only [listRep] at h ⊢
    obtain ⟨u, us', h1, h2, h3⟩ := h
    exact ⟨u, us', h1, vrep_mono c m hTB h2, listRep_mono cs m hTB h3⟩
theorem cellsRep_mono {w w' : World} : ∀ (cs : List AV) {T B T' B' : Area} {I I' : Inj} {g off : Nat}, Mono w T B I w' T' B' I' → (∀ g, T g → B g) → (∀ o, w'.cell? ⟨g, o, none⟩ = w.cell? ⟨g, o, none⟩) →
    cellsRep w cs T B I g off → cellsRep w' cs T' B' I' g off
  | [], _, _, _, _, _, _, _, _, _, _, _, _ => by simp only [cellsRep]
  | c :: cs, _, _, _, _, _, _, _, _, m, hTB, hg, h => by
    simp only [cellsRep] at h ⊢
    obtain ⟨⟨u, h1, h2, h3⟩, h4⟩ := h
    exact ⟨⟨u, (hg _).trans h1, h2, vrep_mono c m hTB h3⟩, cellsRep_mono cs m hTB hg h4⟩
theorem rowsRep_mono {w w' : World} : ∀ (rs : List (List AV)) {T B T' B' : Area} {I I' : Inj} {g off sz : Nat}, Mono w T B I w' T' B' I' → (∀ g, T g → B g) → (∀ o, w'.cell? ⟨g, o, none⟩ = w.cell? ⟨g, o, none⟩) →
    rowsRep w rs T B I g off sz → rowsRep w' rs T' B' I' g off sz
  | [], _, _, _, _, _, _, _, _, _, _, _, _, _ => by simp only [rowsRep]
  | r :: rs, _, _, _, _, _, _, _, _, _, m, hTB, hg, h => by
    simp only [rowsRep] at h ⊢
    exact ⟨h.1, cellsRep_mono r m hTB hg h.2.1, rowsRep_mono rs m hTB hg h.2.2⟩
end

/-! ### Place by place -/
section
variable {w : World} {T B : Area} {I : Inj}

theorem listRep_len : ∀ {cs : List AV} {us : List Value}, listRep w cs T B I us → us.length = cs.length
  | [], _, h => by simp only [listRep] at h; subst h; rfl
  | c :: cs, _, h => by
    simp only [listRep] at h
    obtain ⟨u, us', rfl, _, h3⟩ := h
    simp [listRep_len h3]

theorem listRep_get : ∀ {cs : List AV} {us : List Value}, listRep w cs T B I us → ∀ (i : Nat) (c : AV), cs[i]? = some c → ∃ u, us[i]? = some u ∧ vrep w c T B I u
  | [], _, _, i, c, h => by simp at h
  | c :: cs, _, h, 0, c', h' => by
    simp only [listRep] at h
    obtain ⟨u, us', rfl, h2, _⟩ := h
    simp at h'; subst h'
    exact ⟨u, rfl, h2⟩
  | c :: cs, _, h, i + 1, c', h' => by
    simp only [listRep] at h
    obtain ⟨u, us', rfl, _, h3⟩ := h
    simpa using listRep_get h3 i c' (by simpa using h')

theorem listRep_append : ∀ {cs ds : List AV} {us vs : List Value}, listRep w cs T B I us → listRep w ds T B I vs → listRep w (cs ++ ds) T B I (us ++ vs)
  | [], _, _, _, h, k => by simp only [listRep] at h; subst h; simpa using k
  | c :: cs, ds, _, _, h, k => by
    simp only [listRep] at h
    obtain ⟨u, us', rfl, h2, h3⟩ := h
    simp only [List.cons_append, listRep]
    exact ⟨u, us' ++ _, rfl, h2, listRep_append h3 k⟩

theorem listRep_take : ∀ {cs : List AV} {us : List Value} (n : Nat), listRep w cs T B I us → listRep w (cs.take n) T B I (us.take n)
  | _, _, 0, _ => by simp [listRep]
  | [], _, n + 1, h => by simp only [listRep] at h; subst h; simp [listRep]
  | c :: cs, _, n + 1, h => by
    simp only [listRep] at h
    obtain ⟨u, us', rfl, h2, h3⟩ := h
    simp only [List.take_succ_cons, listRep]
    exact ⟨u, us'.take n, rfl, h2, listRep_take n h3⟩

theorem listRep_drop : ∀ {cs : List AV} {us : List Value} (n : Nat), listRep w cs T B I us → listRep w (cs.drop n) T B I (us.drop n)
  | _, _, 0, h => by simpa using h
  | [], _, n + 1, h => by simp only [listRep] at h; subst h; simp [listRep]
  | c :: cs, _, n + 1, h => by
    simp only [listRep] at h
    obtain ⟨u, us', rfl, h2, h3⟩ := h
    simpa using listRep_drop n h3

theorem listRep_set : ∀ {cs : List AV} {us : List Value} (n : Nat) (c : AV) (u : Value), listRep w cs T B I us → vrep w c T B I u → listRep w (cs.set n c) T B I (us.set n u)
  | [], _, n, _, _, h, _ => by simp only [listRep] at h; subst h; simp [listRep]
  | c :: cs, _, 0, d, v, h, k => by
    simp only [listRep] at h
    obtain ⟨u, us', rfl, h2, h3⟩ := h
    simp only [List.set_cons_zero, listRep]
    exact ⟨v, us', rfl, k, h3⟩
  | c :: cs, _, n + 1, d, v, h, k => by
    simp only [listRep] at h
    obtain ⟨u, us', rfl, h2, h3⟩ := h
    simp only [List.set_cons_succ, listRep]
    exact ⟨u, _, rfl, h2, listRep_set n d v h3 k⟩

theorem listRep_map {α : Type} {f : α → AV} {g : α → Value} : ∀ (l : List α), (∀ x ∈ l, vrep w (f x) T B I (g x)) → listRep w (l.map f) T B I (l.map g)
  | [], _ => by simp [listRep]
  | x :: l, h => by
    simp only [List.map_cons, listRep]
    exact ⟨g x, l.map g, rfl, h x (by simp), listRep_map l fun y hy => h y (by simp [hy])⟩

theorem cellsRep_iff {cs : List AV} {g off : Nat} : cellsRep w cs T B I g off ↔ ∀ (j : Nat) (c : AV), cs[j]? = some c → ∃ u, w.cell? ⟨g, off + j, none⟩ = some u ∧ u.oneCell' = true ∧ vrep w c T B I u := by
  induction cs generalizing off with
  | nil => simp [cellsRep]
  | cons c cs ih =>
    simp only [cellsRep, ih]
    constructor
    · rintro ⟨h1, h2⟩ j d hj
      cases j with
      | zero => simp at hj; subst hj; simpa using h1
      | succ j =>
        have := h2 j d (by simpa using hj)
        rwa [show off + 1 + j = off + (j + 1) by omega] at this
    · intro h
      refine ⟨by simpa using h 0 c rfl, fun j d hj => ?_⟩
      have := h (j + 1) d (by simpa using hj)
      rwa [show off + (j + 1) = off + 1 + j by omega] at this

theorem rowsRep_iff {rs : List (List AV)} {g off sz : Nat} : rowsRep w rs T B I g off sz ↔ ∀ (i : Nat) (r : List AV), rs[i]? = some r → r.length = sz ∧ cellsRep w r T B I g (off + i * sz) := by
  induction rs generalizing off with
  | nil => simp [rowsRep]
  | cons r rs ih =>
    simp only [rowsRep, ih]
    constructor
    · rintro ⟨h1, h2, h3⟩ i d hi
      cases i with
      | zero => simp at hi; subst hi; simpa using ⟨h1, h2⟩
      | succ i =>
        have := h3 i d (by simpa using hi)
        rwa [show off + sz + i * sz = off + (i + 1) * sz by rw [Nat.add_mul]; omega] at this
    · intro h
      have h0 := h 0 r rfl
      refine ⟨h0.1, by simpa using h0.2, fun i d hi => ?_⟩
      have := h (i + 1) d (by simpa using hi)
      rwa [show off + (i + 1) * sz = off + sz + i * sz by rw [Nat.add_mul]; omega] at this

/-- The cells of some rows, one behind the other. -/
theorem flat_get {α : Type} : ∀ {rs : List (List α)} {sz : Nat}, (∀ r ∈ rs, r.length = sz) → ∀ (i j : Nat) (r : List α) (c : α), rs[i]? = some r → r[j]? = some c → rs.flatten[i * sz + j]? = some c
  | [], _, _, i, _, _, _, h, _ => by simp at h
  | r :: rs, sz, hl, 0, j, r', c, h, k => by
    simp at h; subst h
    have := (List.getElem?_eq_some_iff.1 k).1
    rw [Nat.zero_mul, Nat.zero_add, List.flatten_cons, List.getElem?_append_left this]; exact k
  | r :: rs, sz, hl, i + 1, j, r', c, h, k => by
    have h0 := hl r (by simp)
    rw [List.flatten_cons, List.getElem?_append_right (by rw [h0, Nat.add_mul]; omega)]
    have := flat_get (rs := rs) (sz := sz) (fun x hx => hl x (by simp [hx])) i j r' c (by simpa using h) k
    rwa [show (i + 1) * sz + j - r.length = i * sz + j by rw [h0, Nat.add_mul]; omega]

theorem flat_len {α : Type} : ∀ {rs : List (List α)} {sz : Nat}, (∀ r ∈ rs, r.length = sz) → rs.flatten.length = rs.length * sz
  | [], _, _ => by simp
  | r :: rs, sz, hl => by
    simp only [List.flatten_cons, List.length_append, List.length_cons, hl r (by simp), flat_len (rs := rs) (sz := sz) (fun x hx => hl x (by simp [hx])), Nat.add_mul, Nat.one_mul]
    omega

theorem flat_split {α : Type} {rs : List (List α)} {sz : Nat} (hl : ∀ r ∈ rs, r.length = sz) (hsz : 0 < sz) (p : Nat) (c : α) (h : rs.flatten[p]? = some c) : ∃ r, rs[p / sz]? = some r ∧ r[p % sz]? = some c := by
  have hp : p < rs.flatten.length := (List.getElem?_eq_some_iff.1 h).1
  rw [flat_len hl] at hp
  have hd : p / sz < rs.length := Nat.div_lt_of_lt_mul (by rw [Nat.mul_comm]; exact hp)
  have hr := List.getElem?_eq_getElem hd
  refine ⟨_, hr, ?_⟩
  have hlen := hl _ (List.getElem_mem hd)
  have hm : p % sz < (rs[p / sz]).length := by rw [hlen]; exact Nat.mod_lt _ hsz
  have := flat_get hl (p / sz) (p % sz) _ _ hr (List.getElem?_eq_getElem hm)
  rw [Nat.mul_comm, Nat.div_add_mod, h] at this
  rw [List.getElem?_eq_getElem hm, ← Option.some.inj this]

theorem flat_set {α : Type} : ∀ {rs : List (List α)} {sz : Nat}, (∀ r ∈ rs, r.length = sz) → ∀ (i : Nat) (r : List α), i < rs.length → (rs.set i r).flatten = rs.flatten.take (i * sz) ++ r ++ rs.flatten.drop (i * sz + sz)
  | [], _, _, i, _, h => by simp at h
  | x :: rs, sz, hl, 0, r, _ => by
    have h0 := hl x (by simp)
    simp [← h0]
  | x :: rs, sz, hl, i + 1, r, h => by
    have h0 := hl x (by simp)
    have ih := flat_set (rs := rs) (sz := sz) (fun y hy => hl y (by simp [hy])) i r (by simpa using h)
    simp only [List.set_cons_succ, List.flatten_cons, ih]
    rw [show (i + 1) * sz = x.length + i * sz by rw [h0, Nat.add_mul]; omega, List.take_length_add_append, show x.length + i * sz + sz = x.length + (i * sz + sz) by omega, List.drop_length_add_append]
    simp

theorem rowsRep_flat {rs : List (List AV)} {g off sz : Nat} : rowsRep w rs T B I g off sz ↔ (∀ r ∈ rs, r.length = sz) ∧ cellsRep w rs.flatten T B I g off := by
  rw [rowsRep_iff, cellsRep_iff]
  rcases Nat.eq_zero_or_pos sz with rfl | hsz
  · constructor
    · intro h
      have hl : ∀ r ∈ rs, r.length = 0 := fun r hr => by
        obtain ⟨i, hi, rfl⟩ := List.getElem_of_mem hr
        exact (h i _ (List.getElem?_eq_getElem hi)).1
      refine ⟨hl, fun p c hp => ?_⟩
      have : rs.flatten = [] := List.flatten_eq_nil_iff.2 fun r hr => List.eq_nil_of_length_eq_zero (hl r hr)
      rw [this] at hp; simp at hp
    · rintro ⟨hl, _⟩ i r hi
      have := hl r (List.mem_of_getElem? hi)
      refine ⟨this, ?_⟩
      rw [List.eq_nil_of_length_eq_zero this]
      simp only [cellsRep]
  constructor
  · intro h
    have hl : ∀ r ∈ rs, r.length = sz := fun r hr => by
      obtain ⟨i, hi, rfl⟩ := List.getElem_of_mem hr
      exact (h i _ (List.getElem?_eq_getElem hi)).1
    refine ⟨hl, fun p c hp => ?_⟩
    obtain ⟨r, h1, h2⟩ := flat_split hl hsz p c hp
    obtain ⟨u, k1, k2⟩ := cellsRep_iff.1 (h _ r h1).2 _ c h2
    refine ⟨u, ?_, k2⟩
    rwa [Nat.add_assoc, Nat.mul_comm, Nat.div_add_mod] at k1
  · rintro ⟨hl, h⟩ i r hi
    refine ⟨hl r (List.mem_of_getElem? hi), cellsRep_iff.2 fun j c hj => ?_⟩
    obtain ⟨u, k1, k2⟩ := h _ c (flat_get hl i j r c hi hj)
    exact ⟨u, by rwa [Nat.add_assoc], k2⟩

theorem cellsRep_append {cs ds : List AV} {g off : Nat} : cellsRep w (cs ++ ds) T B I g off ↔ cellsRep w cs T B I g off ∧ cellsRep w ds T B I g (off + cs.length) := by
  induction cs generalizing off with
  | nil => simp [cellsRep]
  | cons c cs ih => simp only [List.cons_append, cellsRep, ih, List.length_cons, and_assoc]; rw [show off + 1 + cs.length = off + (cs.length + 1) by omega]

theorem rowsRep_append {rs ss : List (List AV)} {g off sz : Nat} : rowsRep w (rs ++ ss) T B I g off sz ↔ rowsRep w rs T B I g off sz ∧ rowsRep w ss T B I g (off + rs.length * sz) sz := by
  induction rs generalizing off with
  | nil => simp [rowsRep]
  | cons r rs ih => simp only [List.cons_append, rowsRep, ih, List.length_cons, and_assoc]; rw [show off + sz + rs.length * sz = off + (rs.length + 1) * sz by rw [Nat.add_mul]; omega]

theorem rowsRep_take {rs : List (List AV)} {g off sz : Nat} (n : Nat) (h : rowsRep w rs T B I g off sz) : rowsRep w (rs.take n) T B I g off sz := by
  rw [rowsRep_iff] at h ⊢
  intro i r hi
  exact h i r (by rw [List.getElem?_take] at hi; split at hi <;> simp_all)

theorem rowsRep_drop {rs : List (List AV)} {g off sz : Nat} (n : Nat) (h : rowsRep w rs T B I g off sz) : rowsRep w (rs.drop n) T B I g (off + n * sz) sz := by
  rw [rowsRep_iff] at h ⊢
  intro i r hi
  have := h (n + i) r (by rwa [List.getElem?_drop] at hi)
  rwa [Nat.add_mul, ← Nat.add_assoc] at this

/-- Cells that lie in memory, read. -/
theorem cellsRep_read {cs : List AV} {g off : Nat} (h : cellsRep w cs T B I g off) : ∃ us : List Value, listRep w cs T B I us ∧ us.length = cs.length ∧ (∀ u ∈ us, u.oneCell' = true) ∧ ∀ (j : Nat) (u : Value), us[j]? = some u → w.cell? ⟨g, off + j, none⟩ = some u := by
  induction cs generalizing off with
  | nil => exact ⟨[], by simp [listRep], rfl, by simp, by simp⟩
  | cons c cs ih =>
    simp only [cellsRep] at h
    obtain ⟨⟨u, h1, h2, h3⟩, h4⟩ := h
    obtain ⟨us, k1, k2, k3, k4⟩ := ih h4
    refine ⟨u :: us, by simp only [listRep]; exact ⟨u, us, rfl, h3, k1⟩, by simp [k2], ?_, ?_⟩
    · intro v hv
      simp at hv
      rcases hv with rfl | hv
      · exact h2
      · exact k3 v hv
    · intro j v hj
      cases j with
      | zero => simp at hj; subst hj; simpa using h1
      | succ j =>
        have := k4 j v (by simpa using hj)
        rwa [show off + 1 + j = off + (j + 1) by omega] at this

theorem cellsRep_of_list {cs : List AV} {us : List Value} {g off : Nat} (h : listRep w cs T B I us) (h1 : ∀ u ∈ us, u.oneCell' = true) (hc : ∀ (j : Nat) (u : Value), us[j]? = some u → w.cell? ⟨g, off + j, none⟩ = some u) :
    cellsRep w cs T B I g off := by
  rw [cellsRep_iff]
  intro j c hj
  obtain ⟨u, k1, k2⟩ := listRep_get h j c hj
  exact ⟨u, hc j u k1, h1 u (List.mem_of_getElem? k1), k2⟩

/-! ### Words on values -/
theorem cell_one {v : AV} {u : Value} (hc : v.cell = true) (h : vrep w v T B I u) : u.oneCell' = true := by
  cases v <;> simp only [AV.cell, vrep] at hc h
  case flat => subst h; exact hc
  case sl =>
    rcases h with h | h
    · obtain ⟨_, _, _, _, rfl⟩ := h; rfl
    · obtain ⟨_, _, _, _, rfl, _⟩ := h; rfl
  case tsl => obtain ⟨_, _, rfl, _⟩ := h; rfl
  case tptr => obtain ⟨_, _, rfl, _⟩ := h; rfl
  case esl => obtain ⟨_, rfl⟩ := h; rfl
  case ptr => obtain ⟨_, _, _, rfl⟩ := h; rfl
  case fn => obtain ⟨_, rfl, _⟩ := h; rfl
  case iface => obtain ⟨_, rfl, _⟩ := h; rfl
  case mp => obtain ⟨_, _, _, rfl⟩ := h; rfl
  all_goals first | (subst h; rfl) | cases hc

mutual
theorem clean_rep : ∀ (v : AV) {u : Value}, v.clean = true → vrep w v T B I u → vrep w v T B noInj u
  | .int .., _, _, h => h
  | .bool .., _, _, h => h
  | .str .., _, _, h => h
  | .flat .., _, _, h => h
  | .agg cs, _, hc, h => by
    simp only [AV.clean] at hc; simp only [vrep] at h ⊢
    obtain ⟨us, h1, h2⟩ := h
    exact ⟨us, h1, cleanL_rep cs hc h2⟩
  | .tup cs, _, hc, h => by
    simp only [AV.clean] at hc; simp only [vrep] at h ⊢
    obtain ⟨us, h1, h2⟩ := h
    exact ⟨us, h1, cleanL_rep cs hc h2⟩
  | .tsl .., _, _, h => by simp only [vrep] at h ⊢; exact h
  | .tptr .., _, _, h => by simp only [vrep] at h ⊢; exact h
  | .esl, _, _, h => by simp only [vrep] at h ⊢; exact h
  | .sl .., _, hc, _ => by simp [AV.clean] at hc
  | .ptr .., _, hc, _ => by simp [AV.clean] at hc
  | .osl .., _, hc, _ => by simp [AV.clean] at hc
  | .fn f cs, _, hc, h => by
    simp only [AV.clean] at hc; simp only [vrep] at h ⊢
    obtain ⟨us, h1, h2⟩ := h
    exact ⟨us, h1, cleanL_rep cs hc h2⟩
  | .iface t x, _, hc, h => by
    simp only [AV.clean] at hc; simp only [vrep] at h ⊢
    obtain ⟨v, h1, h2⟩ := h
    exact ⟨v, h1, clean_rep x hc h2⟩
  | .mp _, _, hc, _ => by simp [AV.clean] at hc
  | .it _, _, hc, _ => by simp [AV.clean] at hc
  | .junk, _, hc, _ => by simp [AV.clean] at hc
theorem cleanL_rep : ∀ (cs : List AV) {us : List Value}, cleanL cs = true → listRep w cs T B I us → listRep w cs T B noInj us
  | [], _, _, h => by simp only [listRep] at h ⊢; exact h
  | c :: cs, _, hc, h => by
    simp only [cleanL, Bool.and_eq_true] at hc
    simp only [listRep] at h ⊢
    obtain ⟨u, us', h1, h2, h3⟩ := h
    exact ⟨u, us', h1, clean_rep c hc.1 h2, cleanL_rep cs hc.2 h3⟩
end

mutual
theorem stab_rep (hTB : ∀ g, T g → B g) : ∀ (v : AV) {u : Value}, v.stab = true → vrep w v T B I u → vrep w v T T noInj u
  | .int .., _, _, h => h
  | .bool .., _, _, h => h
  | .str .., _, _, h => h
  | .flat .., _, _, h => h
  | .agg cs, _, hc, h => by
    simp only [AV.stab] at hc; simp only [vrep] at h ⊢
    obtain ⟨us, h1, h2⟩ := h
    exact ⟨us, h1, stabL_rep hTB cs hc h2⟩
  | .tup cs, _, hc, h => by
    simp only [AV.stab] at hc; simp only [vrep] at h ⊢
    obtain ⟨us, h1, h2⟩ := h
    exact ⟨us, h1, stabL_rep hTB cs hc h2⟩
  | .tsl st sz rows, _, hc, h => by simp only [AV.stab] at hc; subst hc; simp only [vrep] at h ⊢; exact h
  | .tptr st row off, _, hc, h => by simp only [AV.stab] at hc; subst hc; simp only [vrep] at h ⊢; exact h
  | .esl, _, _, h => by simp only [vrep] at h ⊢; exact h
  | .sl .., _, hc, _ => by simp [AV.stab] at hc
  | .ptr .., _, hc, _ => by simp [AV.stab] at hc
  | .osl .., _, hc, _ => by simp [AV.stab] at hc
  | .fn f cs, _, hc, h => by
    simp only [AV.stab] at hc; simp only [vrep] at h ⊢
    obtain ⟨us, h1, h2⟩ := h
    exact ⟨us, h1, stabL_rep hTB cs hc h2⟩
  | .iface t x, _, hc, h => by
    simp only [AV.stab] at hc; simp only [vrep] at h ⊢
    obtain ⟨v, h1, h2⟩ := h
    exact ⟨v, h1, stab_rep hTB x hc h2⟩
  | .mp _, _, hc, _ => by simp [AV.stab] at hc
  | .it _, _, hc, _ => by simp [AV.stab] at hc
  | .junk, _, hc, _ => by simp [AV.stab] at hc
theorem stabL_rep (hTB : ∀ g, T g → B g) : ∀ (cs : List AV) {us : List Value}, stabL cs = true → listRep w cs T B I us → listRep w cs T T noInj us
  | [], _, _, h => by simp only [listRep] at h ⊢; exact h
  | c :: cs, _, hc, h => by
    simp only [stabL, Bool.and_eq_true] at hc
    simp only [listRep] at h ⊢
    obtain ⟨u, us', h1, h2, h3⟩ := h
    exact ⟨u, us', h1, stab_rep hTB c hc.1 h2, stabL_rep hTB cs hc.2 h3⟩
end

/-- The cells of a value. -/
theorem cells_rep {v : AV} {u : Value} (hc : v.cells.all AV.cell = true) (h : vrep w v T B I u) : listRep w v.cells T B I u.cells.toList ∧ ∀ x ∈ u.cells.toList, x.oneCell' = true := by
  have key : ∀ {cs : List AV} {us : List Value}, cs.all AV.cell = true → listRep w cs T B I us → ∀ x ∈ us, x.oneCell' = true := by
    intro cs
    induction cs with
    | nil => intro us _ h x hx; simp only [listRep] at h; subst h; simp at hx
    | cons c cs ih =>
      intro us hc h x hx
      simp only [listRep] at h
      obtain ⟨u, us', rfl, h2, h3⟩ := h
      simp only [List.all_cons, Bool.and_eq_true] at hc
      simp at hx
      rcases hx with rfl | hx
      · exact cell_one hc.1 h2
      · exact ih hc.2 h3 x hx
  by_cases hv : ∃ cs, v = .agg cs
  · obtain ⟨cs, rfl⟩ := hv
    simp only [vrep] at h
    obtain ⟨us, rfl, h2⟩ := h
    simp only [AV.cells] at hc
    simp only [AV.cells, Value.cells]
    exact ⟨h2, key hc h2⟩
  · have e1 : v.cells = [v] := by cases v <;> first | rfl | exact absurd ⟨_, rfl⟩ hv
    rw [e1] at hc ⊢
    have h1 : u.oneCell' = true := cell_one (by simpa using hc) h
    have e2 : u.cells = #[u] := by cases u <;> first | rfl | (simp [Value.oneCell'] at h1)
    rw [e2]
    refine ⟨by simp only [listRep]; exact ⟨u, [], rfl, h, rfl⟩, ?_⟩
    intro x hx
    simp at hx; subst hx; exact h1
end
end Go.Eng
