/- Operations that write. -/
import Derived.Test.YtoeogoeahmlgnaaGreatDoorEngG
import Derived.Laws.CopyOwn
set_option linter.all false
namespace Go.Eng
open Go.RowKit
variable [Known]

section
variable {P : Program} {X : Ctx} (hX : CtxOK P X) {base : Nat} {T B : Area} {I : Inj} {S S' : Sig} {w : World}

theorem flat_patch {rows : List (List AV)} {sz row off : Nat} {r cs : List AV} (hl : ∀ r ∈ rows, r.length = sz) (hr : rows[row]? = some r) (hf : off + cs.length ≤ sz) :
    (rows.set row (patch r off cs)).flatten = patch rows.flatten (row * sz + off) cs := by
  have hlt := (List.getElem?_eq_some_iff.1 hr).1
  have hrl := hl r (List.mem_of_getElem? hr)
  have key : ∀ (rows : List (List AV)) (row : Nat), (∀ r ∈ rows, r.length = sz) → rows[row]? = some r → (rows.set row (patch r off cs)).flatten = patch rows.flatten (row * sz + off) cs := by
    intro rows
    induction rows with
    | nil => intro row _ h; simp at h
    | cons x xs ih =>
      intro row hl h
      have hx := hl x (by simp)
      cases row with
      | zero =>
        simp at h; subst h
        simp only [List.set_cons_zero, List.flatten_cons, patch, Nat.zero_mul, Nat.zero_add]
        rw [List.take_append_of_le_length (by omega), List.drop_append_of_le_length (by omega)]
        simp
      | succ row =>
        have := ih row (fun y hy => hl y (by simp [hy])) (by simpa using h)
        simp only [List.set_cons_succ, List.flatten_cons]
        rw [this]
        unfold patch
        rw [show (row + 1) * sz + off = x.length + (row * sz + off) by rw [hx, Nat.add_mul]; omega, List.take_length_add_append, Nat.add_assoc x.length, List.drop_length_add_append]
        simp
  exact key rows row hl hr

omit [Known] in
theorem patch_rep {fl cs : List AV} {us vs : List Value} {p : Nat} (h : listRep w fl T B I us) (k : listRep w cs T B I vs) : listRep w (patch fl p cs) T B I (us.take p ++ vs ++ us.drop (p + vs.length)) := by
  unfold patch
  rw [← listRep_len k]
  exact listRep_append (listRep_append (listRep_take _ h) k) (listRep_drop _ h)

omit [Known] in
/-- The memory of one block of the run's own, turned. -/
theorem mono_setRow (hB : ∀ g, B g → g < w.heap.size) {g : Nat} (hg : ¬ B g) (c : Array Value) : Mono w T B I (w.setRow g c) T B I :=
  ⟨fun _ h => h, fun _ h => h, fun _ _ _ h => h, fun g' hg' => setRow_other w g g' c (fun e => hg (e ▸ hg'))⟩

theorem Rel.write (h : Rel base T B I S w) {b e g gs : Nat} {rows rows' : List (List AV)} {sz wep : Nat} {pr pr' : Bool} {c c' : Array Value} {ty : TypeId} (hi : I b e = some (g, gs)) (hS : S b = some (.arr rows sz wep pr)) (he : rows.length = e)
    (hlen : rows'.length = rows.length) (hc : w.heap[g]? = some (.cells c ty (0, 0))) (hs : c'.size = c.size) (hS' : S' b = some (.arr rows' sz e pr')) (hS2 : ∀ x, x ≠ b → S' x = S x)
    (hnew : rowsRep (w.setRow g c') rows' T (if pr' then T else B) (if pr' then noInj else I) g 0 sz) : Rel base T B I S' (w.setRow g c') ∧ Step base T B I w T B I (w.setRow g c') := by
  obtain ⟨o1, o2, c0, ty0, o3, o4⟩ := h.ownA hi hS
  rw [hc] at o3
  injection o3 with o3; injection o3 with q1 q2; subst q1 q2
  have hm : Mono w T B I (w.setRow g c') T B I := mono_setRow h.Blt o2 c'
  refine ⟨⟨by simp; exact h.base_le, h.TB, fun g' hg' => by simp; exact h.Blt g' hg', fun b' e' g' gs' hi' => ?_, h.excl, fun b' e' g' gs' hi' => ?_, fun g' o k => ⟨(h.known g' o k).1, by rw [setRow_other w g g' c' (fun e => o2 (e ▸ (h.known g' o k).1))]; exact (h.known g' o k).2⟩⟩, hm, below_setRow (Below.refl _ _) o1 c', fun _ h => .inl h, fun _ h => .inl h⟩
  · obtain ⟨p1, p2, p3⟩ := h.own _ _ _ _ hi'
    exact ⟨p1, p2, by simpa using p3⟩
  · by_cases hb : b' = b
    · subst hb
      obtain ⟨k2, k3, k4⟩ := h.blkA hi' hS
      obtain ⟨_, _, c1, ty1, p3, p4⟩ := h.ownA hi' hS
      rw [hS']
      refine ⟨by omega, k3, ?_, fun hle => ?_⟩
      · by_cases hg : g' = g
        · subst hg
          refine ⟨c', ty, setRow_heap w g' c c' ty (0, 0) hc, ?_⟩
          rw [hs]
          rw [hc] at p3
          injection p3 with p3; injection p3 with q1 _; subst q1
          exact p4
        · exact ⟨c1, ty1, by rw [setRow_other w g g' c' hg]; exact p3, p4⟩
      · obtain rfl : e' = e := by omega
        rw [hi] at hi'
        injection hi' with hi'; injection hi' with q1 q2; subst q1 q2
        rw [← he, ← hlen, List.take_length]
        exact hnew
    · have hg : g' ≠ g := fun hg => hb (h.excl _ _ _ _ _ _ _ (hg ▸ hi') hi)
      rw [hS2 _ hb]
      exact (h.blk _ _ _ _ hi').mono hm h.TB (setRow_other w g g' c' hg)

/-- Cells behind all that a block shows, turned. -/
theorem Rel.beyond (h : Rel base T B I S w) {b e g gs n : Nat} {rows : List (List AV)} {sz wep : Nat} {pr : Bool} {c c' : Array Value} {ty : TypeId} (hi : I b e = some (g, gs)) (hS : S b = some (.arr rows sz wep pr)) (hlast : ∀ e, n < e → I b e = none)
    (hc : w.heap[g]? = some (.cells c ty (0, 0))) (hs : c'.size = c.size) (hsame : ∀ j, j < n * sz → c'[j]? = c[j]?) : Rel base T B I S (w.setRow g c') ∧ Step base T B I w T B I (w.setRow g c') := by
  obtain ⟨o1, o2, c0, ty0, o3, o4⟩ := h.ownA hi hS
  have hm : Mono w T B I (w.setRow g c') T B I := mono_setRow h.Blt o2 c'
  refine ⟨⟨by simp; exact h.base_le, h.TB, fun g' hg' => by simp; exact h.Blt g' hg', fun b' e' g' gs' hi' => ?_, h.excl, fun b' e' g' gs' hi' => ?_, fun g' o k => ⟨(h.known g' o k).1, by rw [setRow_other w g g' c' (fun e => o2 (e ▸ (h.known g' o k).1))]; exact (h.known g' o k).2⟩⟩, hm, below_setRow (Below.refl _ _) o1 c', fun _ h => .inl h, fun _ h => .inl h⟩
  · obtain ⟨p1, p2, p3⟩ := h.own _ _ _ _ hi'
    exact ⟨p1, p2, by simpa using p3⟩
  · by_cases hg : g' = g
    · subst hg
      have hb := h.excl _ _ _ _ _ _ _ hi' hi
      subst hb
      obtain ⟨k2, k3, k4⟩ := h.blkA hi' hS
      obtain ⟨_, _, c1, ty1, p3, p4⟩ := h.ownA hi' hS
      have hen : e' ≤ n := by
        rcases Nat.lt_or_ge n e' with h1 | h1
        · rw [hlast _ h1] at hi'; cases hi'
        · exact h1
      rw [hc] at p3
      injection p3 with p3; injection p3 with q1 _; subst q1
      rw [hS]
      refine ⟨k2, k3, ⟨c', ty, setRow_heap w g' c c' ty (0, 0) hc, by rw [hs]; exact p4⟩, fun hle => ?_⟩
      have k5 := k4 hle
      rw [rowsRep_flat] at k5 ⊢
      refine ⟨k5.1, ?_⟩
      have k6 := k5.2
      rw [cellsRep_iff] at k6 ⊢
      intro j d hj
      obtain ⟨u, m1, m2, m3⟩ := k6 j d hj
      refine ⟨u, ?_, m2, vrep_mono d (mono_pr _ hm h.TB) (TB_pr _ h.TB) m3⟩
      have hjl := (List.getElem?_eq_some_iff.1 hj).1
      rw [flat_len k5.1, List.length_take] at hjl
      have hle2 : min e' rows.length * sz ≤ n * sz := Nat.mul_le_mul_right _ (by omega)
      rw [Nat.zero_add] at m1 ⊢
      rw [cell_setRow_same w g' j c c' ty (0, 0) hc, hsame j (by omega), ← m1]
      simp [World.cell?, hc]
    · exact (h.blk _ _ _ _ hi').mono hm h.TB (setRow_other w g g' c' hg)

/-- More rows, not yet laid. -/
theorem Rel.longer (h : Rel base T B I S w) {b : Nat} {rows news : List (List AV)} {sz wep : Nat} {pr pr' : Bool} (hS : S b = some (.arr rows sz wep pr)) (hpr : pr' = true → pr = true) (hS' : S' b = some (.arr (rows ++ news) sz wep pr')) (hS2 : ∀ x, x ≠ b → S' x = S x) :
    Rel base T B I S' w := by
  refine ⟨h.base_le, h.TB, h.Blt, h.own, h.excl, fun b' e' g' gs' hi' => ?_, h.known⟩
  by_cases hb : b' = b
  · subst hb
    obtain ⟨k2, k3, k4⟩ := h.blkA hi' hS
    obtain ⟨_, _, k5⟩ := h.ownA hi' hS
    rw [hS']
    refine ⟨by simp; omega, k3, k5, fun hle => ?_⟩
    rw [List.take_append_of_le_length k2]
    cases pr' with
    | true => have := hpr rfl; subst this; exact k4 hle
    | false => exact noInj_mono h.TB (k4 hle)
  · rw [hS2 _ hb]
    exact h.blk _ _ _ _ hi'

omit [Known] in
theorem listRep_noInj {cs : List AV} {us : List Value} {pr : Bool} (hTB : ∀ g, T g → B g) (h : listRep w cs T (if pr then T else B) (if pr then noInj else I) us) : listRep w cs T B I us := by
  cases pr
  · exact h
  · exact listRep_mono _ ⟨fun _ h => h, hTB, fun _ _ _ h => (by simp [noInj] at h), fun _ _ => rfl⟩ (fun _ h => h) h

omit [Known] in
theorem patch_get {α : Type} {l vs : List α} {p : Nat} (h : p + vs.length ≤ l.length) (j : Nat) : (l.take p ++ vs ++ l.drop (p + vs.length))[j]? = if j < p then l[j]? else if j < p + vs.length then vs[j - p]? else l[j]? := by
  have hp : (l.take p).length = p := by simp; omega
  by_cases h1 : j < p
  · rw [if_pos h1, List.append_assoc, List.getElem?_append_left (by omega), List.getElem?_take, if_pos h1]
  · rw [if_neg h1, List.append_assoc, List.getElem?_append_right (by omega), hp]
    by_cases h2 : j < p + vs.length
    · rw [if_pos h2, List.getElem?_append_left (by omega)]
    · rw [if_neg h2, List.getElem?_append_right (by omega), List.getElem?_drop]
      congr 1; omega

/-! ### store -/

/-- What an operation that writes leaves. -/
def EOut (P : Program) (base : Nat) (T B : Area) (I : Inj) (S' : Sig) (w : World) (v : AV) (x : Sem Next) : Prop :=
  ∃ T' B' I' w' u n, x.run P w = .ok n w' ∧ ((n = .value u) ∨ (n = .skip ∧ u = undef)) ∧ Step base T B I w T' B' I' w' ∧ Rel base T' B' I' S' w' ∧ vrep w' v T' B' I' u

theorem write_sound {b e g gs sz wep p : Nat} {rows rows' : List (List AV)} {pr pr' : Bool} {cs : List AV} {vs : List Value} (h : Rel base T B I S w) (hi : I b e = some (g, gs)) (hS : S b = some (.arr rows sz wep pr)) (he : rows.length = e) (hw : wep ≤ e)
    (hvs : listRep w cs T B I vs) (hone : ∀ u ∈ vs, u.oneCell' = true) (hfit : p + cs.length ≤ rows.length * sz) (hlen : rows'.length = rows.length) (hflat : rows'.flatten = patch rows.flatten p cs) (hl' : (∀ r ∈ rows, r.length = sz) → ∀ r ∈ rows', r.length = sz) (hpr : pr' = true → pr = true ∧ stabL cs = true)
    (hS' : S' b = some (.arr rows' sz e pr')) (hS2 : ∀ x, x ≠ b → S' x = S x) :
    ∃ w', (storeCells ⟨g, p, none⟩ vs).run P w = .ok () w' ∧ Step base T B I w T B I w' ∧ Rel base T B I S' w' := by
  obtain ⟨o1, o2, c, ty, o3, o4⟩ := h.ownA hi hS
  obtain ⟨k2, k3, k4⟩ := h.blkA hi hS
  have hk := k4 hw
  rw [← he, List.take_length] at hk
  rw [rowsRep_flat] at hk
  obtain ⟨hl, hcells⟩ := hk
  obtain ⟨us, u1, u2, u3, u4⟩ := cellsRep_read hcells
  rw [flat_len hl] at u2
  have hc2 : rows.length * sz ≤ c.size := by rw [o4, he]; exact k3
  have hul : ∀ j, j < us.length → us[j]? = c.toList[j]? := fun j hj => by
    have := u4 j us[j] (List.getElem?_eq_getElem hj)
    rw [cell_of_row _ _ _ _ _ _ o3, Nat.zero_add] at this
    rw [List.getElem?_eq_getElem hj, Array.getElem?_toList, this]
  have hvl : vs.length = cs.length := listRep_len hvs
  have hst := run_storeCells_at P g p ty vs 0 c w o3 (by omega) hone
  simp only [Nat.add_zero] at hst
  refine ⟨_, hst, ?_⟩
  have hsz' : (c.toList.take p ++ vs ++ c.toList.drop (p + vs.length)).toArray.size = c.size := by simp; omega
  have fin := h.write (S' := S') (rows' := rows') (pr' := pr') hi hS he hlen o3 hsz' hS' hS2 ?_
  · exact ⟨fin.2, fin.1⟩
  · rw [rowsRep_flat]
    have hmJ : Mono w T B I (w.setRow g (c.toList.take p ++ vs ++ c.toList.drop (p + vs.length)).toArray) T B I :=
      ⟨fun _ h => h, fun _ h => h, fun _ _ _ h => h, fun g' hg' => setRow_other w g g' _ (fun e => o2 (e ▸ hg'))⟩
    refine ⟨hl' hl, ?_⟩
    rw [hflat]
    have hlist : listRep w (patch rows.flatten p cs) T (if pr' then T else B) (if pr' then noInj else I) (us.take p ++ vs ++ us.drop (p + vs.length)) := by
      cases hp' : pr' with
      | true =>
        obtain ⟨hp1, hp2⟩ := hpr hp'
        subst hp1
        simp only [if_true] at u1 ⊢
        exact patch_rep u1 (stabL_rep h.TB _ hp2 hvs)
      | false =>
        simp only [Bool.false_eq_true, if_false]
        cases pr with
        | false => exact patch_rep u1 hvs
        | true => exact patch_rep (listRep_noInj h.TB u1) hvs
    refine cellsRep_of_list (listRep_mono _ (mono_pr _ hmJ h.TB) (TB_pr _ h.TB) hlist) ?_ ?_
    · intro x hx
      simp only [List.mem_append] at hx
      rcases hx with (hx | hx) | hx
      · exact u3 x (List.mem_of_mem_take hx)
      · exact hone x hx
      · exact u3 x (List.mem_of_mem_drop hx)
    · intro j u hj
      rw [cell_setRow_same w g _ c _ ty (0, 0) o3, Nat.zero_add]
      have hjl := (List.getElem?_eq_some_iff.1 hj).1
      simp only [List.length_append, List.length_take, List.length_drop] at hjl
      rw [patch_get (by omega)] at hj
      rw [List.getElem?_toArray, patch_get (by simp; omega)]
      split at hj
      · rename_i q; rw [if_pos q, ← hul j (by omega)]; exact hj
      · rename_i q
        rw [if_neg q]
        split at hj
        · rename_i q2; rw [if_pos q2]; exact hj
        · rename_i q2; rw [if_neg q2, ← hul j (by omega)]; exact hj

include hX in
theorem store_sound {t : TypeId} {i : TyI} {b e sz row off wep : Nat} {rows : List (List AV)} {pr : Bool} {xv : AV} {pu xu : Value} (h : Rel base T B I S w) (ht : X.ty t = some i) (hp : vrep w (.ptr b e sz row off) T B I pu) (hx : vrep w xv T B I xu)
    (hS : S b = some (.arr rows sz wep pr)) (he : rows.length = e) (hw : wep ≤ e) (hrow : row < e) (hcs : xv.cells.length = i.size) (hfit : off + xv.cells.length ≤ sz) (hcell : xv.cells.all AV.cell = true)
    (hS' : S' b = some (.arr (rows.set row (patch (rows.getD row []) off xv.cells)) sz e (pr && stabL xv.cells))) (hS2 : ∀ x, x ≠ b → S' x = S x) :
    ∃ w', (Instr.storeAt t pu xu).run P w = .ok () w' ∧ Step base T B I w T B I w' ∧ Rel base T B I S' w' := by
  obtain ⟨ti, d, z, _, _, _, _, _, _, _, _, _, r2, r3, _⟩ := ty_run (hX.ty _ _ ht)
  simp only [vrep] at hp
  obtain ⟨g, gs, hi, rfl⟩ := hp
  obtain ⟨k2, k3, k4⟩ := h.blkA hi hS
  have hk := k4 hw
  rw [← he, List.take_length, rowsRep_flat] at hk
  have hrow' : rows[row]? = some (rows.getD row []) := by
    rw [List.getD_eq_getElem?_getD, List.getElem?_eq_getElem (by omega)]; rfl
  obtain ⟨x1, x2⟩ := cells_rep hcell hx
  have xl := listRep_len x1
  simp only [Array.length_toList] at xl
  have hp : row * sz + off + xv.cells.length ≤ rows.length * sz := by
    have := Nat.mul_le_mul_right sz (show row + 1 ≤ rows.length by omega)
    rw [Nat.add_mul, Nat.one_mul] at this; omega
  obtain ⟨w', s1, s2, s3⟩ := write_sound (P := P) h hi hS he hw x1 x2 hp (rows' := rows.set row (patch (rows.getD row []) off xv.cells)) (pr' := pr && stabL xv.cells) (by simp) (flat_patch hk.1 hrow' hfit) (fun hl r hr => by
    rcases List.mem_or_eq_of_mem_set hr with h3 | rfl
    · exact hl r h3
    · have hrl := hl _ (List.mem_of_getElem? hrow')
      simp only [patch, List.length_append, List.length_take, List.length_drop]
      omega) (fun hp => by simpa using hp) hS' hS2
  refine ⟨w', ?_, s2, s3⟩
  have hz : ¬ (xu.cells.size ≠ i.size) := by rw [xl, hcs]; simp
  simp only [Instr.storeAt, Instr.sureAddr, Sem.run_bind, Sem.run_pure, Result.andThen_ok, storeVar, r2, Sem.run_ite, hz, if_false, s1]

/-! ### append -/

omit [Known] in
theorem run_append_room' {P : Program} (w : World) (t ty e : TypeId) (i : TypeInfo) (ht : P.underlying t = some (.slice e)) (hi : P.info? e = some i) (te : TypeId)
    (g sLen sCap : Nat) (cur : Array Value) (hg : w.heap[g]? = some (.cells cur te (0, 0)))
    (a : Addr) (m c : Nat) (news : List Value) (hl : news.length = m * i.size) (hnews : ∀ j u, news[j]? = some u → w.cell? (a.add j) = some u) (h1 : ∀ u ∈ news, u.oneCell' = true)
    (hroom : sLen + m ≤ sCap) (hfit : sLen * i.size + news.length ≤ cur.size) :
    (Builtin.append_ #[t, t] ty #[.slice (some ⟨g, 0, none⟩) sLen sCap, .slice (some a) m c]).run P w =
      .ok (.slice (some ⟨g, 0, none⟩) (sLen + m) sCap) (w.setRow g (cur.toList.take (sLen * i.size) ++ news ++ cur.toList.drop (sLen * i.size + news.length)).toArray) := by
  have hf := run_firstCells_some (P := P) w i.size m a m c news hl hnews
  have hst := run_storeCells_at P g (sLen * i.size) te news 0 cur w hg (by simpa using hfit) h1
  simp only [Nat.add_zero] at hst
  simp [Builtin.append_, run_underlying ht, sizeOf, typeInfo, hi, Builtin.lenOf, hroom, hf, Addr.add_lit, hst]

omit [Known] in
theorem run_append_zero {P : Program} (w : World) (t ty e : TypeId) (i : TypeInfo) (ht : P.underlying t = some (.slice e)) (hi : P.info? e = some i) (ao xo : Option Addr) (n cap c : Nat) (hn : n ≤ cap) :
    (Builtin.append_ #[t, t] ty #[.slice ao n cap, .slice xo 0 c]).run P w = .ok (.slice ao n cap) w := by
  have hf : (Builtin.firstCells i.size 0 (.slice xo 0 c)).run P w = .ok #[] w := by
    cases xo <;> simp [Builtin.firstCells, loadCells, loadCellsFrom]
  cases ao <;> simp [Builtin.append_, run_underlying ht, sizeOf, typeInfo, hi, Builtin.lenOf, hn, hf, storeCells]

omit [Known] in
/-- The cells of some rows, as values. -/
theorem rows_read {rows : List (List AV)} {g off sz : Nat} {J : Inj} {B0 : Area} (h : rowsRep w rows T B0 J g off sz) : ∃ us : List Value, listRep w rows.flatten T B0 J us ∧ us.length = rows.length * sz ∧ (∀ u ∈ us, u.oneCell' = true) ∧ (∀ (j : Nat) (u : Value), us[j]? = some u → w.cell? ((⟨g, off, none⟩ : Addr).add j) = some u) ∧ ∀ r ∈ rows, r.length = sz := by
  rw [rowsRep_flat] at h
  obtain ⟨us, h1, h2, h3, h4⟩ := cellsRep_read h.2
  exact ⟨us, h1, by rw [h2, flat_len h.1], h3, fun j u hj => by rw [Addr.add_lit]; exact h4 j u hj, h.1⟩

/-- A new row of cells for some rows: the new version's place. -/
theorem append_new (h : Rel base T B I S w) {b : Nat} {rows : List (List AV)} {sz wep : Nat} {pr : Bool} {us : List Value} {c : Array Value} (ty : TypeId) (hn : I b rows.length = none) (hS : Holds S b (.arr rows sz wep pr))
    (hl : ∀ r ∈ rows, r.length = sz) (hus : listRep w rows.flatten T (if pr then T else B) (if pr then noInj else I) us) (h1 : ∀ u ∈ us, u.oneCell' = true) (hc : c.toList.take us.length = us) :
    Rel base T B (Inj.put I b rows.length w.heap.size c.size) S (w.drew.alloc (.cells c ty)) ∧ Step base T B I w T B (Inj.put I b rows.length w.heap.size c.size) (w.drew.alloc (.cells c ty)) := by
  have hd : Rel base T B I S w.drew := h.heap rfl
  have hA := hd.alloc (.cells c ty)
  have hnew : (w.drew.alloc (.cells c ty)).heap[w.heap.size]? = some (.cells c ty (0, 0)) := heap_alloc_new w.drew (.cells c ty)
  have hm : Mono w T B I (w.drew.alloc (.cells c ty)) T B I := ⟨fun _ h => h, fun _ h => h, fun _ _ _ h => h, fun g hg => heap_alloc_ne (w := w.drew) _ _ (h.Blt g hg)⟩
  have hlen : us.length = rows.length * sz := by rw [listRep_len hus, flat_len hl]
  have hle : us.length ≤ c.size := by
    have : (c.toList.take us.length).length = us.length := by rw [hc]
    simp at this; omega
  have hv := hA.version (b := b) (g := w.heap.size) hn hS h.base_le (fun hB => absurd (h.Blt _ hB) (Nat.lt_irrefl _)) (fun b e gs hi => absurd (h.lt hi) (Nat.lt_irrefl _)) hnew (by omega) (by
    rw [rowsRep_flat]
    refine ⟨hl, cellsRep_of_list (listRep_mono _ (mono_pr _ hm h.TB) (TB_pr _ h.TB) hus) h1 fun j u hj => ?_⟩
    rw [cell_of_row _ _ _ _ _ _ hnew, Nat.zero_add]
    rw [← hc, List.getElem?_take] at hj
    split at hj
    · simpa using hj
    · cases hj)
  refine ⟨hv.1, Step.trans ?_ hv.2⟩
  exact Step.quiet h ((Below.refl _ w).drew.alloc (by simp) _) (fun _ h => h) (fun _ h => h) (fun _ h => .inl h) (fun _ h => .inl h)

include hX in
/-- 'append' that makes a new row: onto nothing. -/
theorem append_fresh {t ty el : TypeId} {ei : TyI} {pr : Bool} {news : List (List AV)} {b : Nat} {ao xo : Option Addr} {xc : Nat} (h : Rel base T B I S w) (ht : P.underlying t = some (.slice el)) (he : X.ty el = some ei)
    (hrow : news ≠ [] → ∃ g off, xo = some ⟨g, off, none⟩ ∧ rowsRep w news T (if pr then T else B) (if pr then noInj else I) g off ei.size) (hz : ei.zero.length = ei.size) (hne : news.length ≠ 0) (hb1 : news.length * ei.bytes ≤ 140737488355328) (hb2 : news.length ≤ 140737488355328)
    (hfresh : I b news.length = none) (hS' : Holds S b (.arr news ei.size 0 pr)) :
    ∃ I' w' u, (Builtin.append_ #[t, t] ty #[.slice ao 0 0, .slice xo news.length xc]).run P w = .ok u w' ∧ Step base T B I w T B I' w' ∧ Rel base T B I' S w' ∧ vrep w' (.sl b news.length 0 news.length ei.size) T B I' u ∧ ∀ b' e p, I' b' e = some p → I b' e = some p ∨ (b' = b ∧ e = news.length) := by
  obtain ⟨ti, d, z, k1, k2, k3, k4, k5, k6, _⟩ := (hX.ty _ _ he).ok
  have hne' : news ≠ [] := by intro h0; subst h0; simp at hne
  obtain ⟨g, off, rfl, hr⟩ := hrow hne'
  obtain ⟨us, l1, l2, l3, l4, l5⟩ := rows_read hr
  have hlen : us.length = news.length * ti.size := by rw [l2, k4]
  have fin : ∀ (cap : Nat), news.length ≤ cap → cap ≤ maxLen → ∀ c : Array Value, c = us.toArray ++ Builtin.zeroCells z.cells (cap - news.length) → ∀ u w', (Builtin.append_ #[t, t] ty #[.slice ao 0 0, .slice (some ⟨g, off, none⟩) news.length xc]).run P w = .ok u w' → u = .slice (some ⟨w.heap.size, 0, none⟩) news.length cap → w' = w.drew.alloc (.cells c el) →
      ∃ I' w' u, (Builtin.append_ #[t, t] ty #[.slice ao 0 0, .slice (some ⟨g, off, none⟩) news.length xc]).run P w = .ok u w' ∧ Step base T B I w T B I' w' ∧ Rel base T B I' S w' ∧ vrep w' (.sl b news.length 0 news.length ei.size) T B I' u ∧ ∀ b' e p, I' b' e = some p → I b' e = some p ∨ (b' = b ∧ e = news.length) := by
    intro cap c1 c2 c hc u w' hrun hu hw'
    obtain ⟨m1, m2⟩ := append_new h (us := us) (c := c) el hfresh hS' l5 l1 l3 (by rw [hc]; simp)
    refine ⟨_, _, _, hrun, hw' ▸ m2, hw' ▸ m1, ?_, fun b' e p hp => ?_⟩
    rotate_left
    · unfold Inj.put at hp
      split at hp
      · rename_i hc; exact .inr hc
      · exact .inl hp
    rw [hu]
    simp only [vrep]
    refine .inr ⟨w.heap.size, c.size, cap, Inj.put_self, by simp, c1, c2, ?_⟩
    have zl : z.cells.size = ei.size := by have := k6.1; rw [← hz, this]; simp
    rw [hc]
    simp only [Array.size_append, List.size_toArray, l2, size_zeroCells, zl]
    rw [← Nat.add_mul, Nat.zero_add, show news.length + (cap - news.length) = cap by omega]
    exact Nat.le_refl _
  have hmax : news.length ≤ maxLen := by unfold maxLen; omega
  cases ao with
  | none =>
    have hrun := run_append_nil (P := P) w t ty el ti z ht k1 k3 ⟨g, off, none⟩ news.length xc us hlen l4 (by omega) (by omega) (by rw [k5]; omega)
    exact fin _ (grownCap_ge w news.length 0 el) (grownCap_le_maxLen w news.length 0 el hmax) _ rfl _ _ hrun rfl rfl
  | some a =>
    have hrun := run_append_grow (P := P) w t ty el ti z ht k1 k3 a 0 0 [] (by simp) (by simp) ⟨g, off, none⟩ news.length xc us hlen l4 (by omega) (by omega) (growslice_fits (by omega) (by rw [k5, Nat.zero_add]; omega))
    simp only [Nat.zero_add] at hrun
    exact fin _ (grownCap_ge w news.length 0 el) (grownCap_le_maxLen w news.length 0 el hmax) _ (by simp) _ _ hrun rfl rfl

include hX in
/-- 'append' onto a slice of the run's own: the view shows already what comes of it. -/
theorem append_ver {t ty el : TypeId} {ei : TyI} {prn pr : Bool} {news rows : List (List AV)} {b wep : Nat} {u1 : Value} {xo : Option Addr} {xc : Nat} (h : Rel base T B I S w) (ht : P.underlying t = some (.slice el)) (he : X.ty el = some ei)
    (hrow : news ≠ [] → ∃ g off, xo = some ⟨g, off, none⟩ ∧ rowsRep w news T (if prn then T else B) (if prn then noInj else I) g off ei.size) (hz : ei.zero.length = ei.size) (hne : news.length ≠ 0) (hb1 : (rows.length + news.length) * ei.bytes ≤ 140737488355328) (hb2 : rows.length + news.length ≤ 140737488355328)
    (hu : vrep w (.sl b rows.length 0 rows.length ei.size) T B I u1) (hS : Holds S b (.arr (rows ++ news) ei.size wep pr)) (hpn : pr = true → prn = true) (hw : wep ≤ rows.length) (hlast : ∀ e, rows.length < e → I b e = none) :
    ∃ I' w' u, (Builtin.append_ #[t, t] ty #[u1, .slice xo news.length xc]).run P w = .ok u w' ∧ Step base T B I w T B I' w' ∧ Rel base T B I' S w' ∧ vrep w' (.sl b (rows.length + news.length) 0 (rows.length + news.length) ei.size) T B I' u ∧ (∀ b' e p, I' b' e = some p → I b' e = some p ∨ (b' = b ∧ e = rows.length + news.length)) ∧ (0 < rows.length → I b rows.length ≠ none) := by
  obtain ⟨ti, d, z, k1, k2, k3, k4, k5, k6, _⟩ := (hX.ty _ _ he).ok
  have hne' : news ≠ [] := by intro h0; subst h0; simp at hne
  obtain ⟨g, off, rfl, hr⟩ := hrow hne'
  obtain ⟨us, l1, l2, l3, l4, l5⟩ := rows_read hr
  have hlen : us.length = news.length * ti.size := by rw [l2, k4]
  have zl : z.cells.size = ei.size := by have := k6.1; rw [← hz, this]; simp
  have hmax : rows.length + news.length ≤ maxLen := by unfold maxLen; omega
  have hnone : I b (rows.length + news.length) = none := hlast _ (by omega)
  have hlen2 : (rows ++ news).length = rows.length + news.length := by simp
  have put1 : ∀ {g gs : Nat}, ∀ b' e p, Inj.put I b (rows.length + news.length) g gs b' e = some p → I b' e = some p ∨ (b' = b ∧ e = rows.length + news.length) := fun {g gs} b' e p hp => by
    unfold Inj.put at hp
    split at hp
    · rename_i hc; exact .inr hc
    · exact .inl hp
  have news' : listRep w news.flatten T (if pr then T else B) (if pr then noInj else I) us := by
    cases pr with
    | true => have := hpn rfl; subst this; exact l1
    | false => exact listRep_noInj h.TB l1
  -- a row of cells of its own for all of them
  have fresh : ∀ (olds : List Value) (cap : Nat), listRep w rows.flatten T (if pr then T else B) (if pr then noInj else I) olds → olds.length = rows.length * ei.size → (∀ u ∈ olds, u.oneCell' = true) → (∀ r ∈ rows, r.length = ei.size) → rows.length + news.length ≤ cap → cap ≤ maxLen → ∀ c : Array Value, c = olds.toArray ++ us.toArray ++ Builtin.zeroCells z.cells (cap - (rows.length + news.length)) →
      ∀ u w', (Builtin.append_ #[t, t] ty #[u1, .slice (some ⟨g, off, none⟩) news.length xc]).run P w = .ok u w' → u = .slice (some ⟨w.heap.size, 0, none⟩) (rows.length + news.length) cap → w' = w.drew.alloc (.cells c el) →
      ∃ I' w' u, (Builtin.append_ #[t, t] ty #[u1, .slice (some ⟨g, off, none⟩) news.length xc]).run P w = .ok u w' ∧ Step base T B I w T B I' w' ∧ Rel base T B I' S w' ∧ vrep w' (.sl b (rows.length + news.length) 0 (rows.length + news.length) ei.size) T B I' u ∧ (∀ b' e p, I' b' e = some p → I b' e = some p ∨ (b' = b ∧ e = rows.length + news.length)) := by
    intro olds cap o1 o2 o3 o4 c1 c2 c hc u w' hrun hu hw'
    have hall : listRep w (rows ++ news).flatten T (if pr then T else B) (if pr then noInj else I) (olds ++ us) := by
      rw [List.flatten_append]
      exact listRep_append o1 news'
    obtain ⟨m1, m2⟩ := append_new h (us := olds ++ us) (c := c) el (by rw [hlen2]; exact hnone) hS (fun r hr => by rcases List.mem_append.1 hr with h1 | h1; exact o4 r h1; exact l5 r h1) hall
      (fun u hu => by rcases List.mem_append.1 hu with h1 | h1; exact o3 u h1; exact l3 u h1) (by
        have : c.toList = (olds ++ us) ++ (Builtin.zeroCells z.cells (cap - (rows.length + news.length))).toList := by rw [hc]; simp
        rw [this, List.take_left'] ; rfl)
    rw [hlen2] at m1 m2
    refine ⟨_, _, _, hrun, hw' ▸ m2, hw' ▸ m1, ?_, put1⟩
    rw [hu]
    simp only [vrep]
    refine .inr ⟨w.heap.size, c.size, cap, Inj.put_self, by simp, c1, c2, ?_⟩
    rw [hc]
    simp only [Array.size_append, List.size_toArray, l2, o2, size_zeroCells, zl]
    rw [← Nat.add_mul, ← Nat.add_mul, Nat.zero_add, show rows.length + news.length + (cap - (rows.length + news.length)) = cap by omega]
    exact Nat.le_refl _
  simp only [vrep] at hu
  rcases hu with ⟨h0, _, _, ao, rfl⟩ | ⟨g1, gs, cap, hi, rfl, c1, c2, c3⟩
  · have hr0 : rows = [] := List.eq_nil_of_length_eq_zero h0
    subst hr0
    have this := fresh [] (grownCap w news.length 0 el) (by simp [listRep]) (by simp) (by simp) (by simp) (by simpa using grownCap_ge w news.length 0 el) (grownCap_le_maxLen w news.length 0 el (by simpa using hmax)) _ rfl
    cases ao with
    | none =>
      have hrun := run_append_nil (P := P) w t ty el ti z ht k1 k3 ⟨g, off, none⟩ news.length xc us hlen l4 (by omega) (by simp at hb2; omega) (by rw [k5]; simp at hb1; omega)
      obtain ⟨I', w', u, a1, a2, a3, a4, a5⟩ := this _ _ hrun (by simp) (by simp)
      exact ⟨I', w', u, a1, a2, a3, a4, a5, fun h0 => absurd h0 (by simp)⟩
    | some a =>
      have hrun := run_append_grow (P := P) w t ty el ti z ht k1 k3 a 0 0 [] (by simp) (by simp) ⟨g, off, none⟩ news.length xc us hlen l4 (by omega) (by simp at hb2; omega) (growslice_fits (by omega) (by rw [k5, Nat.zero_add]; simp at hb1; omega))
      simp only [Nat.zero_add] at hrun
      obtain ⟨I', w', u, a1, a2, a3, a4, a5⟩ := this _ _ hrun (by simp) (by simp)
      exact ⟨I', w', u, a1, a2, a3, a4, a5, fun h0 => absurd h0 (by simp)⟩
  · obtain ⟨more, hSm⟩ := hS.arr
    obtain ⟨o1, o2, c, ty', o3, o4⟩ := h.ownA hi hSm
    obtain ⟨q2, q3, q4⟩ := h.blkA hi hSm
    have hk := q4 hw
    rw [List.append_assoc, List.take_left] at hk
    obtain ⟨olds, d1, d2, d3, d4, d5⟩ := rows_read hk
    simp only [Nat.zero_mul] at d4 c3 ⊢
    by_cases hroom : rows.length + news.length ≤ cap
    · -- room
      have hcap : (rows.length + news.length) * ei.size ≤ c.size := by
        rw [o4]
        exact Nat.le_trans (Nat.mul_le_mul_right _ hroom) (by simpa using c3)
      rw [Nat.add_mul] at hcap
      have hrun := run_append_room' (P := P) w t ty el ti ht k1 ty' g1 rows.length cap c o3 ⟨g, off, none⟩ news.length xc us hlen l4 l3 hroom (by rw [k4, l2]; exact hcap)
      rw [k4] at hrun
      generalize hc' : (c.toList.take (rows.length * ei.size) ++ us ++ c.toList.drop (rows.length * ei.size + us.length)).toArray = c' at hrun
      have hcs : c'.size = c.size := by rw [← hc']; simp; omega
      have hget : ∀ j : Nat, c'[j]? = if j < rows.length * ei.size then c[j]? else if j < rows.length * ei.size + us.length then us[j - rows.length * ei.size]? else c[j]? := fun j => by
        rw [← hc', List.getElem?_toArray, patch_get (by simp; omega)]
        simp only [Array.getElem?_toList]
      obtain ⟨b3, b2⟩ := h.beyond (n := rows.length) hi hSm hlast o3 hcs (fun j hj => by rw [hget, if_pos hj])
      have hnew := setRow_heap w g1 c c' ty' (0, 0) o3
      have hmJ : Mono w T B I (w.setRow g1 c') T B I := ⟨fun _ h => h, fun _ h => h, fun _ _ _ h => h, fun g' hg' => setRow_other w g1 g' _ (fun e => o2 (e ▸ hg'))⟩
      have hv := b3.version (b := b) (g := g1) (c := c') (by rw [hlen2]; exact hnone) hS o1 o2 (fun b' e gs' hi' => h.excl _ _ _ _ _ _ _ hi' hi) hnew (by rw [hlen2, hcs, Nat.add_mul]; exact hcap) (by
        rw [rowsRep_flat]
        refine ⟨fun r hr => by rcases List.mem_append.1 hr with h1 | h1; exact d5 r h1; exact l5 r h1, ?_⟩
        have hall : listRep w (rows ++ news).flatten T (if pr then T else B) (if pr then noInj else I) (olds ++ us) := by
          rw [List.flatten_append]
          exact listRep_append d1 news'
        refine cellsRep_of_list (listRep_mono _ (mono_pr _ hmJ h.TB) (TB_pr _ h.TB) hall) (fun u hu => by rcases List.mem_append.1 hu with h1 | h1; exact d3 u h1; exact l3 u h1) fun j u hj => ?_
        rw [cell_of_row _ _ _ _ _ _ hnew, Nat.zero_add, hget]
        by_cases hj1 : j < rows.length * ei.size
        · rw [if_pos hj1]
          rw [List.getElem?_append_left (by omega)] at hj
          have := d4 j u hj
          rw [Addr.add_lit, Nat.zero_add, cell_of_row _ _ _ _ _ _ o3] at this
          exact this
        · rw [if_neg hj1]
          rw [List.getElem?_append_right (by omega), d2] at hj
          have := (List.getElem?_eq_some_iff.1 hj).1
          rw [if_pos (by omega)]
          exact hj)
      rw [hlen2] at hv
      refine ⟨_, _, _, hrun, b2.trans hv.2, hv.1, ?_, put1, fun _ h0 => by rw [hi] at h0; cases h0⟩
      simp only [vrep]
      refine .inr ⟨g1, c'.size, cap, Inj.put_self, by simp, hroom, c2, ?_⟩
      rw [hcs, o4]
      simpa using c3
    · have hrun := run_append_grow (P := P) w t ty el ti z ht k1 k3 ⟨g1, 0, none⟩ rows.length cap olds (by rw [d2, k4]) d4 ⟨g, off, none⟩ news.length xc us hlen l4 (by omega) (by omega) (growslice_fits (by omega) (by rw [k5]; exact hb1))
      have := fresh olds (grownCap w (rows.length + news.length) cap el) d1 d2 d3 d5 (grownCap_ge w _ cap el) (grownCap_le_maxLen w _ cap el hmax) _ rfl
      simp only [Nat.zero_mul] at this
      obtain ⟨I', w', u, a1, a2, a3, a4, a5⟩ := this _ _ hrun rfl rfl
      exact ⟨I', w', u, a1, a2, a3, a4, a5, fun _ h0 => by rw [hi] at h0; cases h0⟩

include hX in
/-- 'append' onto a slice of the run's own. -/
theorem append_own {t ty el : TypeId} {ei : TyI} {prn pr : Bool} {news rows : List (List AV)} {b wep : Nat} {u1 : Value} {xo : Option Addr} {xc : Nat} (h : Rel base T B I S w) (ht : P.underlying t = some (.slice el)) (he : X.ty el = some ei)
    (hrow : news ≠ [] → ∃ g off, xo = some ⟨g, off, none⟩ ∧ rowsRep w news T (if prn then T else B) (if prn then noInj else I) g off ei.size) (hz : ei.zero.length = ei.size) (hne : news.length ≠ 0) (hb1 : (rows.length + news.length) * ei.bytes ≤ 140737488355328) (hb2 : rows.length + news.length ≤ 140737488355328)
    (hu : vrep w (.sl b rows.length 0 rows.length ei.size) T B I u1) (hS : S b = some (.arr rows ei.size wep pr)) (hw : wep ≤ rows.length) (hS' : S' b = some (.arr (rows ++ news) ei.size wep (pr && prn))) (hS2 : ∀ x, x ≠ b → S' x = S x) :
    ∃ I' w' u, (Builtin.append_ #[t, t] ty #[u1, .slice xo news.length xc]).run P w = .ok u w' ∧ Step base T B I w T B I' w' ∧ Rel base T B I' S' w' ∧ vrep w' (.sl b (rows.length + news.length) 0 (rows.length + news.length) ei.size) T B I' u := by
  have hlong : Rel base T B I S' w := h.longer hS (pr' := pr && prn) (by intro h0; simp at h0; exact h0.1) hS' hS2
  obtain ⟨I', w', u, a1, a2, a3, a4, _⟩ := append_ver hX (ty := ty) (xc := xc) hlong ht he hrow hz hne hb1 hb2 hu (Holds.of hS') (fun h0 => by simp at h0; exact h0.2) hw (fun e he' => by
    cases hi : I b e with
    | none => rfl
    | some p => have := (h.blkA (g := p.1) (gs := p.2) hi hS).1; omega)
  exact ⟨I', w', u, a1, a2, a3, a4⟩

/-! ### clear -/
include hX in
theorem clear_sound {t el ty : TypeId} {ei : TyI} {b e sz off len wep : Nat} {rows : List (List AV)} {pr : Bool} {u1 : Value} (h : Rel base T B I S w) (ht : P.underlying t = some (.slice el)) (he : X.ty el = some ei) (hu : vrep w (.sl b e off len sz) T B I u1)
    (hS : S b = some (.arr rows sz wep pr)) (hlen : rows.length = e) (hw : wep ≤ e) (hsz : sz = ei.size) (hz : ei.zero.length = sz) (hfit : off + len ≤ e) (hne : len ≠ 0)
    (hS' : S' b = some (.arr (rows.take off ++ List.replicate len ei.zero ++ rows.drop (off + len)) sz e pr)) (hS2 : ∀ x, x ≠ b → S' x = S x) :
    ∃ w', (Builtin.clear_ #[t] ty #[u1]).run P w = .ok (.tuple #[]) w' ∧ Step base T B I w T B I w' ∧ Rel base T B I S' w' := by
  obtain ⟨ti, d, z, k1, k2, k3, k4, k5, k6, _, _, r1, r2, r3, r4, _⟩ := ty_run (hX.ty _ _ he)
  simp only [vrep] at hu
  rcases hu with ⟨_, _, h0, _⟩ | ⟨g, gs, cap, hi, rfl, c1, c2, c3⟩
  · omega
  have zl : z.cells.size = sz := by have := k6.1; rw [← hz, this]; simp
  have hzr := zeros_rep (w := w) (T := T) (B := B) (I := I) (zero_rep k6) len
  have hl0 : ∀ r ∈ List.replicate len ei.zero, r.length = sz := fun r hr => by rw [List.eq_of_mem_replicate hr, hz]
  have hclean : ∀ n, stabL (List.replicate n ei.zero).flatten = true := by
    have h1 : ∀ l : List Value, stabL (l.map ofC) = true := fun l => by
      induction l with
      | nil => rfl
      | cons x xs ih =>
        simp only [List.map_cons, stabL, ih, Bool.and_true]
        cases x <;> rfl
    have h2 : ∀ a b : List AV, stabL (a ++ b) = (stabL a && stabL b) := fun a b => by
      induction a with
      | nil => simp [stabL]
      | cons x xs ih => simp [stabL, ih, Bool.and_assoc]
    intro n
    induction n with
    | zero => rfl
    | succ n ih => rw [List.replicate_succ, List.flatten_cons, h2, ih, k6.1, h1]; rfl
  obtain ⟨q2, q3, q4⟩ := h.blkA hi hS
  have hk := q4 hw
  rw [← hlen, List.take_length, rowsRep_flat] at hk
  have hflen : ((List.replicate len ei.zero).flatten).length = len * sz := by rw [flat_len hl0, List.length_replicate]
  have hmul : (off + len) * sz ≤ rows.length * sz := Nat.mul_le_mul_right _ (by omega)
  rw [Nat.add_mul] at hmul
  have htake : ∀ n, n ≤ rows.length → (rows.take n).flatten = rows.flatten.take (n * sz) ∧ (rows.drop n).flatten = rows.flatten.drop (n * sz) := by
    intro n hn
    have e1 : rows.flatten = (rows.take n).flatten ++ (rows.drop n).flatten := by rw [← List.flatten_append, List.take_append_drop]
    have e2 : (rows.take n).flatten.length = n * sz := by rw [flat_len (fun r hr => hk.1 r (List.mem_of_mem_take hr)), List.length_take, Nat.min_eq_left hn]
    rw [e1, ← e2, List.take_left, List.drop_left]
    exact ⟨rfl, rfl⟩
  obtain ⟨w', s1, s2, s3⟩ := write_sound (P := P) (p := off * sz) h hi hS hlen hw hzr (fun u hu => by
      rw [List.mem_flatten] at hu
      obtain ⟨l, hl, hu⟩ := hu
      rw [List.eq_of_mem_replicate hl] at hu
      exact k6.2 u hu) (by rw [hflen]; exact hmul) (rows' := rows.take off ++ List.replicate len ei.zero ++ rows.drop (off + len)) (pr' := pr) (by simp; omega) (by
      simp only [List.flatten_append, patch, hflen]
      rw [(htake off (by omega)).1, (htake (off + len) (by omega)).2, Nat.add_mul]) (fun hl r hr => by
      simp only [List.mem_append] at hr
      rcases hr with (hr | hr) | hr
      · exact hl r (List.mem_of_mem_take hr)
      · exact hl0 r hr
      · exact hl r (List.mem_of_mem_drop hr)) (fun hp => ⟨hp, hclean len⟩) hS' hS2
  refine ⟨w', ?_, s2, s3⟩
  have hzc : (Builtin.zeroCells z.cells len).toList = (List.replicate len z.cells.toList).flatten := by
    rcases Nat.eq_zero_or_pos z.cells.size with h0 | h0
    · have : z.cells.toList = [] := by simpa using h0
      simp [Builtin.zeroCells, h0, this]
    · exact zeros_list z.cells len h0
  obtain ⟨n, rfl⟩ : ∃ n, len = n + 1 := ⟨len - 1, by omega⟩
  simp only [Builtin.clear_, List.getElem?_toArray, List.getElem?_cons_zero, Sem.run_bind, run_underlying ht, Result.andThen_ok, r4, hzc, s1, Sem.run_pure]
end
end Go.Eng
