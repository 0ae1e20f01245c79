/- Operations that read blocks or make one. -/
import Derived.Laws.MakeOwn
import Derived.Test.YtoeogoeahmlgnaaGreatDoorEngF
set_option linter.all false
namespace Go.Eng
open Go.RowKit
variable [Known]

section
variable {P : Program} {X : Ctx} (hX : CtxOK P X) {base : Nat} {T B : Area} {I : Inj} {S : Store} {S' : Sig} {w : World}

theorem noInj_mono {rs : List (List AV)} {g off sz : Nat} {pr : Bool} (hTB : ∀ g, T g → B g) (h : rowsRep w rs T (if pr then T else B) (if pr then noInj else I) g off sz) : rowsRep w rs T B I g off sz := by
  cases pr
  · exact h
  · exact rowsRep_mono rs ⟨fun _ h => h, hTB, fun _ _ _ h => (by simp [noInj] at h), fun _ _ => rfl⟩ (fun _ h => h) (fun _ => rfl) h

theorem rowOf_rep (h : Rel base T B I S' w) (hS : Ext S S') {b e sz row g gs : Nat} {r : List AV} (hr : rowOf S b e sz row = some r) (hi : I b e = some (g, gs)) :
    cellsRep w r T B I g (row * sz) ∧ r.length = sz := by
  unfold rowOf at hr
  split at hr
  · rename_i rows sz' wep pr e1
    split at hr
    · rename_i hc
      obtain ⟨rfl, c2, c3⟩ := hc
      obtain ⟨more, hm⟩ := (hS _ _ e1).arr
      obtain ⟨k2, k3, k5⟩ := h.blkA hi hm
      have := (rowsRep_iff.1 (noInj_mono h.TB (k5 c2))) row r (by rw [List.getElem?_take, if_pos c3, List.getElem?_append_left (List.getElem?_eq_some_iff.1 hr).1]; exact hr)
      rw [Nat.zero_add] at this
      exact ⟨this.2, this.1⟩
    · cases hr
  · cases hr

include hX in
theorem load_run {t : TypeId} {i : TyI} {r : List AV} {off g o : Nat} {v : AV} (ht : X.ty t = some i) (hc : cellsRep w r T B I g o) (h : partA i r off = some v) :
    ∃ u, (Instr.loadAt t (.pointer (some ⟨g, o + off, none⟩))).run P w = .ok u w ∧ vrep w v T B I u := by
  obtain ⟨ti, d, z, _, _, _, _, _, _, _, _, _, r2, r3, _⟩ := ty_run (hX.ty _ _ ht)
  unfold partA at h
  split at h
  · rename_i ha
    split at h
    · rename_i hle
      injection h with h; subst h
      obtain ⟨us, l1, l2, _, l4⟩ := cellsRep_read hc
      have hlen : ((us.drop off).take i.size).length = i.size := by simp; omega
      have hrun := run_loadCells_list (P := P) w ⟨g, o + off, none⟩ ((us.drop off).take i.size) (fun j u hj => by
        rw [Addr.add_lit, Nat.add_assoc]
        rw [List.getElem?_take] at hj
        split at hj
        · rw [List.getElem?_drop] at hj
          exact l4 _ _ hj
        · cases hj)
      rw [hlen] at hrun
      refine ⟨.agg ((us.drop off).take i.size).toArray, ?_, ?_⟩
      · simp [Instr.loadAt, Instr.sureAddr, loadVar, r3, ha, r2, hrun]
      · simp only [vrep]
        exact ⟨_, rfl, listRep_take _ (listRep_drop _ l1)⟩
    · cases h
  · rename_i ha
    obtain ⟨u, k1, _, k3⟩ := cellsRep_iff.1 hc off v h
    refine ⟨u, ?_, k3⟩
    simp [Instr.loadAt, Instr.sureAddr, loadVar, r3, ha, k1]

/-- The rows behind a slice's value. -/
theorem rowsOf_rep (h : Rel base T B I S' w) (hS : Ext S S') {sz : Nat} {x : AV} {rows : List (List AV)} {pr : Bool} {u : Value} (hr : rowsOf S sz x = some (rows, pr)) (hu : vrep w x T B I u) :
    ∃ ao cap, u = .slice ao rows.length cap ∧ (ao = none → cap = 0) ∧ rows.length ≤ cap ∧ cap ≤ maxLen ∧ (rows ≠ [] → ∃ g off, ao = some ⟨g, off, none⟩ ∧ rowsRep w rows T (if pr then T else B) (if pr then noInj else I) g off sz ∧ (B g ∨ ∃ b e gs, I b e = some (g, gs) ∧ ∃ o l s, x = .sl b e o l s)) := by
  unfold rowsOf at hr
  split at hr
  · rename_i st sz' rows'
    split at hr
    · rename_i hsz
      subst hsz
      injection hr with hr; injection hr with q1 q2; subst q1 q2
      simp only [vrep] at hu
      obtain ⟨ao, cap, rfl, c1, c2, c3, c4⟩ := hu
      refine ⟨ao, cap, rfl, c3, c1, c2, fun hne => ?_⟩
      obtain ⟨g, off, rfl, p1, p2⟩ := c4 hne
      exact ⟨g, off, rfl, p2, .inl (pick_sub h.TB g p1)⟩
    · cases hr
  · rename_i b e off len sz'
    split at hr
    · rename_i rows' sz'' wep pr' e1
      split at hr
      · rename_i hc
        obtain ⟨rfl, rfl, c3, c4, c5⟩ := hc
        injection hr with hr; injection hr with q1 q2; subst q1 q2
        have hlen : ((rows'.drop off).take len).length = len := by simp; omega
        simp only [vrep] at hu
        rcases hu with ⟨rfl, rfl, rfl, ao, rfl⟩ | ⟨g, gs, cap, hi, rfl, d1, d2, d3⟩
        · exact ⟨ao, 0, by simp, fun _ => rfl, by simp, by simp, fun hne => absurd (by simp) hne⟩
        · refine ⟨_, cap, by rw [hlen], by simp, by omega, d2, fun hne => ⟨g, _, rfl, ?_⟩⟩
          obtain ⟨more, hm⟩ := (hS _ _ e1).arr
          obtain ⟨k2, k3, k5⟩ := h.blkA hi hm
          have := rowsRep_take len (rowsRep_drop off (k5 c3))
          rw [Nat.zero_add] at this
          rw [show (((rows' ++ more).take e).drop off).take len = (rows'.drop off).take len by
            rw [List.take_append_of_le_length (by omega), List.drop_take, List.take_take]; congr 1; omega] at this
          exact ⟨this, .inr ⟨_, _, _, hi, _, _, _, rfl⟩⟩
      · cases hr
    · cases hr
  · injection hr with hr; injection hr with q1 q2; subst q1 q2
    simp only [vrep] at hu
    obtain ⟨ao, rfl⟩ := hu
    exact ⟨ao, 0, rfl, fun _ => rfl, by simp, by simp, fun hne => absurd rfl hne⟩
  · injection hr with hr; injection hr with q1 q2; subst q1 q2
    simp only [vrep] at hu
    subst hu
    exact ⟨none, 0, rfl, fun _ => rfl, by simp, by simp, fun hne => absurd rfl hne⟩
  · split at hr
    · rename_i hcap
      injection hr with hr; injection hr with q1 q2; subst q1 q2
      simp only [vrep] at hu
      subst hu
      exact ⟨_, _, rfl, (fun h => absurd h (by simp)), by simp, hcap, fun hne => absurd rfl hne⟩
    · cases hr
  · cases hr

/-- A version of a new block. -/
def NewB (id : Nat) (nb : List Blk) (b e : Nat) : Prop := ∃ k blk, nb[k]? = some blk ∧ b = id + k ∧ e ≤ blk.len

omit [Known] in
theorem NewB.one {id : Nat} {blk : Blk} {b e : Nat} (hb : b = id) (he : e ≤ blk.len) : NewB id [blk] b e := ⟨0, blk, rfl, hb, he⟩

/-- What a quiet operation leaves. -/
def QOut (P : Program) (base : Nat) (T B : Area) (I : Inj) (S' : Sig) (w : World) (id : Nat) (nb : List Blk) (v : AV) (x : Sem Value) : Prop :=
  ∃ T' B' I' w' u, x.run P w = .ok u w' ∧ Step base T B I w T' B' I' w' ∧ Rel base T' B' I' S' w' ∧ vrep w' v T' B' I' u ∧ ∀ b e p, I' b e = some p → I b e = some p ∨ NewB id nb b e

theorem QOut.same {id : Nat} {nb : List Blk} {v : AV} {x : Sem Value} (h : Rel base T B I S' w) (hx : ∃ u, x.run P w = .ok u w ∧ vrep w v T B I u) : QOut P base T B I S' w id nb v x := by
  obtain ⟨u, h1, h2⟩ := hx
  exact ⟨T, B, I, w, u, h1, Step.refl, h, h2, fun _ _ _ h => .inl h⟩

omit [Known] in
theorem put_fresh {b e g gs : Nat} {blk : Blk} (he : e ≤ blk.len) : ∀ b' e' p, Inj.put I b e g gs b' e' = some p → I b' e' = some p ∨ NewB b [blk] b' e' := by
  intro b' e' p h
  unfold Inj.put at h
  split at h
  · rename_i hc; exact .inr (NewB.one hc.1 (by rw [hc.2]; exact he))
  · exact .inl h

/-- A box. -/
theorem box_out (h : Rel base T B I S' w) {id : Nat} {cs : List AV} {us : List Value} {c : Array Value} (ty : TypeId) {pr : Bool} {x : Sem Value} (hfresh : I id 1 = none) (hS : Holds S' id (.arr [cs] cs.length 0 pr))
    (hus : listRep w cs T (if pr then T else B) (if pr then noInj else I) us) (h1 : ∀ u ∈ us, u.oneCell' = true) (hc : c.toList = us) (hx : x.run P w = .ok (.pointer (some ⟨w.heap.size, 0, none⟩)) (w.alloc (.cells c ty))) :
    QOut P base T B I S' w id [.arr [cs] cs.length 0 pr] (.ptr id 1 cs.length 0 0) x := by
  obtain ⟨r1, r2⟩ := h.made (b := id) (rows := [cs]) (sz := cs.length) (pr := pr) (c := c) (us := us) ty hfresh hS (by simp) (by simpa using hus) h1 (by rw [hc, List.take_length])
  refine ⟨T, B, _, _, _, hx, r2, r1, ?_, put_fresh (by simp [Blk.len])⟩
  simp only [vrep]
  exact ⟨w.heap.size, c.size, Inj.put_self, by simp⟩

theorem rowsFill_rep {sz : Nat} : ∀ {parts : List (Nat × AV)} {qs : List (Nat × Value)} {rows out : List (List AV)} {us : List Value}, rowsFill sz rows parts = some out → (∀ r ∈ rows, r.length = sz) → listRep w rows.flatten T B I us → partsRep w T B I parts qs →
      (parts.all fun p => p.2.cells.all AV.cell) = true → (∀ u ∈ us, u.oneCell' = true) →
      ∃ us' : Array Value, Instr.fill (fun i => some (i * sz, sz)) us.toArray qs = some us' ∧ listRep w out.flatten T B I us'.toList ∧ (∀ r ∈ out, r.length = sz) ∧ out.length = rows.length ∧ ∀ u ∈ us'.toList, u.oneCell' = true
  | [], qs, rows, out, us, h, hl, h1, h2, _, hone => by
    simp only [partsRep] at h2; subst h2
    simp only [rowsFill] at h
    injection h with h; subst h
    exact ⟨_, rfl, by simpa using h1, hl, rfl, by simpa using hone⟩
  | (i, v) :: rest, qs, rows, out, us, h, hl, h1, h2, hall, hone => by
    simp only [partsRep] at h2
    obtain ⟨u, qs', rfl, hu, hqs⟩ := h2
    simp only [List.all_cons, Bool.and_eq_true] at hall
    simp only [rowsFill] at h
    split at h
    · rename_i hc
      obtain ⟨c1, c2⟩ := hc
      obtain ⟨k1, k2⟩ := cells_rep hall.1 hu
      have l1 := listRep_len k1
      have l2 := listRep_len h1
      simp only [Array.length_toList] at l1
      rw [flat_len hl] at l2
      have hle : i * sz + sz ≤ rows.length * sz := by
        have := Nat.mul_le_mul_right sz (show i + 1 ≤ rows.length by omega)
        rw [Nat.add_mul, Nat.one_mul] at this; exact this
      have hnew : listRep w (rows.set i v.cells).flatten T B I (us.take (i * sz) ++ u.cells.toList ++ us.drop (i * sz + u.cells.size)) := by
        rw [flat_set hl i v.cells c2, l1, c1]
        exact listRep_append (listRep_append (listRep_take _ h1) k1) (listRep_drop _ h1)
      have hl' : ∀ r ∈ rows.set i v.cells, r.length = sz := fun r hr => by
        rcases List.mem_or_eq_of_mem_set hr with h3 | rfl
        · exact hl r h3
        · exact c1
      have hone' : ∀ x ∈ us.take (i * sz) ++ u.cells.toList ++ us.drop (i * sz + u.cells.size), x.oneCell' = true := fun x hx => by
        simp only [List.mem_append] at hx
        rcases hx with (hx | hx) | hx
        · exact hone x (List.mem_of_mem_take hx)
        · exact k2 x hx
        · exact hone x (List.mem_of_mem_drop hx)
      obtain ⟨us', f1, f2, f3, f4, f5⟩ := rowsFill_rep h hl' hnew hqs hall.2 hone'
      refine ⟨us', ?_, f2, f3, by simpa using f4, f5⟩
      simp only [Instr.fill]
      rw [if_neg (by simp [l1, c1, l2]; omega), foldl_patch' _ u.cells us.toArray (by simp [l1, c1, l2]; omega)]
      exact f1
    · cases h

omit [Known] in
theorem zeros_list (z : Array Value) (n : Nat) (hz : 0 < z.size) : ((Array.range (n * z.size)).map fun j => z[j % z.size]!).toList = (List.replicate n z.toList).flatten := by
  have hl : ∀ r ∈ List.replicate n z.toList, r.length = z.size := fun r hr => by rw [List.eq_of_mem_replicate hr]; simp
  apply List.ext_getElem?
  intro p
  by_cases hp : p < n * z.size
  · have hm := Nat.mod_lt p hz
    have := flat_get hl (p / z.size) (p % z.size) z.toList z[p % z.size] (by
      rw [List.getElem?_replicate, if_pos (Nat.div_lt_of_lt_mul (by rw [Nat.mul_comm]; exact hp))]) (by simp [hm])
    rw [Nat.mul_comm, Nat.div_add_mod] at this
    rw [this]
    simp [hp, getElem!_pos z (p % z.size) hm]
  · rw [List.getElem?_eq_none (by simp; omega), List.getElem?_eq_none (by rw [flat_len hl]; simp; omega)]

omit [Known] in
theorem zeros_rep {zs : List AV} {us : List Value} (h : listRep w zs T B I us) : ∀ n, listRep w (List.replicate n zs).flatten T B I (List.replicate n us).flatten
  | 0 => by simp [listRep]
  | n + 1 => by
    simp only [List.replicate_succ, List.flatten_cons]
    exact listRep_append h (zeros_rep h n)

omit [Known] in
theorem bytesOf_eq : ∀ {rows : List (List AV)} {l : List UInt8}, bytesOf rows = some l → ∃ ns : List Int, rows = ns.map (fun n => [AV.int .u8 n]) ∧ l = ns.map (fun n => UInt8.ofNat n.toNat)
  | [], l, h => by
    simp only [bytesOf] at h; injection h with h; subst h
    exact ⟨[], rfl, rfl⟩
  | [.int .u8 n] :: rest, l, h => by
    simp only [bytesOf, Option.map_eq_some_iff] at h
    obtain ⟨l', h, rfl⟩ := h
    obtain ⟨ns, h1, h2⟩ := bytesOf_eq h
    exact ⟨n :: ns, by rw [h1]; rfl, by rw [h2]; rfl⟩
  | (x :: y :: xs) :: rest, l, h => by simp [bytesOf] at h
  | [] :: rest, l, h => by simp [bytesOf] at h
  | [x] :: rest, l, h => by
    unfold bytesOf at h
    split at h
    · rename_i e; cases e
    · rename_i n rest' e
      rw [Option.map_eq_some_iff] at h
      obtain ⟨l', h, rfl⟩ := h
      injection e with e1 e2
      subst e2
      obtain ⟨ns, h1, h2⟩ := bytesOf_eq h
      exact ⟨n :: ns, by rw [h1, e1]; rfl, by rw [h2]; rfl⟩
    · cases h

omit [Known] in
theorem push_all : ∀ (ns : List Int) (s : ByteArray), ns.foldl (fun r n => r.push (UInt8.ofNat n.toNat)) s = ⟨s.data ++ (ns.map fun n => UInt8.ofNat n.toNat).toArray⟩
  | [], s => by simp
  | n :: ns, s => by
    simp only [List.foldl_cons, push_all ns]
    simp [ByteArray.push]

omit [Known] in
theorem bytes_str {ns : List Int} {ao : Option Addr} {cap : Nat} (h : ns ≠ [] → ∃ g off, ao = some ⟨g, off, none⟩ ∧ rowsRep w (ns.map fun n => [AV.int .u8 n]) T B I g off 1) :
    (Conv.bytesToString (.slice ao ns.length cap)).run P w = .ok (.string ⟨(ns.map fun n => UInt8.ofNat n.toNat).toArray⟩) w := by
  cases ao with
  | none =>
    have : ns = [] := by
      rcases ns with _ | ⟨n, ns⟩
      · rfl
      · obtain ⟨_, _, h, _⟩ := h (by simp); cases h
    subst this
    simp [Conv.bytesToString]; rfl
  | some a =>
    have hload : (loadCells a ns.length).run P w = .ok (ns.map (Value.int .u8)).toArray w := by
      have := run_loadCells_list (P := P) w a (ns.map (Value.int .u8)) (fun j v hj => by
        have hne : ns ≠ [] := by intro h0; subst h0; simp at hj
        obtain ⟨g, off, hao, hr⟩ := h hne
        injection hao with hao; subst hao
        rw [Addr.add_lit]
        rw [List.getElem?_map, Option.map_eq_some_iff] at hj
        obtain ⟨n, hn, rfl⟩ := hj
        have h2 := (rowsRep_iff.1 hr) j [AV.int .u8 n] (by simp [hn])
        obtain ⟨u, k1, _, k3⟩ := cellsRep_iff.1 h2.2 0 (AV.int .u8 n) rfl
        simp only [vrep] at k3; subst k3
        simpa using k1)
      simpa using this
    rw [run_bytesToString w a ns.length cap ns hload, push_all]
    congr 2
    simp

theorem qout_skip {id : Nat} {v : AV} {x y : Sem Value} (h : QOut P base T B I S' w id [] v x) (hxy : x = y) : QOut P base T B I S' w id [] v y := hxy ▸ h

omit [Known] in
theorem clean_cells {v : AV} (h : stabL v.cells = true) : v.stab = true := by
  cases v <;> simp_all [AV.cells, stabL, AV.stab]

omit [Known] in
theorem parts_clean (hTB : ∀ g, T g → B g) : ∀ {ps : List (Nat × AV)} {qs : List (Nat × Value)}, partsRep w T B I ps qs → (ps.all fun p => stabL p.2.cells) = true → partsRep w T T noInj ps qs
  | [], _, h, _ => by simp only [partsRep] at h ⊢; exact h
  | p :: ps, _, h, hc => by
    simp only [List.all_cons, Bool.and_eq_true] at hc
    simp only [partsRep] at h ⊢
    obtain ⟨u, qs', h1, h2, h3⟩ := h
    exact ⟨u, qs', h1, stab_rep hTB _ (clean_cells hc.1) h2, parts_clean hTB h3 hc.2⟩

/-! ### Maps -/
omit [Known] in
theorem keyIs_rep {w : World} {T B : Area} {I : Inj} : ∀ {ks : List EK} {xs : List AV} {us : List Value}, keyIs ks xs = true → listRep w xs T B I us → us = xs.map toV
  | [], [], _, _, h => by simp only [listRep] at h; subst h; rfl
  | [], _ :: _, _, h, _ => by simp [keyIs] at h
  | k :: ks, [], _, h, _ => by cases k <;> simp [keyIs] at h
  | k :: ks, x :: xs, us, h, hl => by
    cases k <;> cases x <;> simp only [keyIs] at h <;> try (cases h; done)
    simp only [listRep] at hl
    obtain ⟨u, us', rfl, hu, hl⟩ := hl
    simp only [vrep] at hu; subst hu
    rw [keyIs_rep h hl]; rfl
omit [Known] in
theorem keyIs_back {w : World} {T B : Area} {I : Inj} : ∀ {ks : List EK} {xs : List AV}, keyIs ks xs = true → listRep w xs T B I (xs.map toV)
  | [], [], _ => by simp only [List.map_nil, listRep]
  | [], _ :: _, h => by simp [keyIs] at h
  | k :: ks, [], h => by cases k <;> simp [keyIs] at h
  | k :: ks, x :: xs, h => by
    cases k <;> cases x <;> simp only [keyIs] at h <;> try (cases h; done)
    simp only [List.map_cons, listRep]
    exact ⟨_, _, rfl, by simp only [vrep, toV], keyIs_back h⟩
omit [Known] in
theorem eqKeys_cells : ∀ {ks : List EK} {xs ys : List AV} {b : Bool}, keyIs ks xs = true → eqKeys xs ys = some b → eqCells ks xs ys = some b
  | [], [], [], _, _, h => by simpa [eqKeys, eqCells] using h
  | [], [], _ :: _, _, _, h => by simp [eqKeys] at h
  | [], _ :: _, _, _, h, _ => by simp [keyIs] at h
  | k :: ks, [], _, _, h, _ => by cases k <;> simp [keyIs] at h
  | k :: ks, x :: xs, [], _, h, h2 => by cases x <;> simp [eqKeys] at h2
  | k :: ks, x :: xs, y :: ys, b, h, h2 => by
    cases k <;> cases x <;> simp only [keyIs] at h <;> try (cases h; done)
    cases y <;> simp only [eqKeys] at h2 <;> try (cases h2; done)
    split at h2
    · rename_i hk
      split at h2
      · rename_i c hc
        simp only [eqCells, eqCell, if_pos hk, eqKeys_cells h hc]
        exact h2
      · cases h2
    · cases h2
omit [Known] in
theorem eqKeys_true : ∀ {xs ys : List AV}, eqKeys xs ys = some true → xs = ys
  | [], [], _ => rfl
  | [], _ :: _, h => by simp [eqKeys] at h
  | x :: xs, [], h => by cases x <;> simp [eqKeys] at h
  | x :: xs, y :: ys, h => by
    cases x <;> cases y <;> simp only [eqKeys] at h <;> try (cases h; done)
    split at h
    · rename_i hk
      split at h
      · rename_i c hc
        simp only [Option.some.injEq, Bool.and_eq_true, beq_iff_eq] at h
        obtain ⟨h1, h2⟩ := h
        subst h2
        rw [hk, h1, eqKeys_true hc]
      · cases h
    · cases h

/-- What a key is in the model. -/
def KeyR (P : Program) (X : Ctx) (t : TypeId) (k : AV) (u : Value) : Prop :=
  (∃ d, P.underlying t = some d ∧ ((∃ j n, k = .int j n ∧ u = .int j n ∧ d = .int j) ∨ (∃ s, k = .str s ∧ u = .string s ∧ d = .string))) ∨
    ∃ xs ks, k = .agg xs ∧ u = .agg (xs.map toV).toArray ∧ X.eqT t = some ks ∧ keyIs ks xs = true

theorem keyA_rep {P : Program} {X : Ctx} {t : TypeId} {i : TyI} {k : AV} {u : Value} {w : World} {T B : Area} {I : Inj} (hX : CtxOK P X) (ht : X.ty t = some i) (hk : keyA X t i.desc k = true) (hu : vrep w k T B I u) : KeyR P X t k u := by
  obtain ⟨_, d, _, _, k2, _, _, _, _, _, k8, _⟩ := ty_run (hX.ty _ _ ht)
  unfold keyA at hk
  split at hk
  · rename_i e1
    rw [e1] at k8
    simp only [descOK] at k8
    subst k8
    simp only [decide_eq_true_eq] at hk
    subst hk
    simp only [vrep] at hu
    exact .inl ⟨_, k2, .inl ⟨_, _, rfl, hu, rfl⟩⟩
  · rename_i e1
    rw [e1] at k8
    simp only [descOK] at k8
    subst k8
    simp only [vrep] at hu
    exact .inl ⟨_, k2, .inr ⟨_, rfl, hu, rfl⟩⟩
  · split at hk
    · rename_i ks e2
      simp only [vrep] at hu
      obtain ⟨us, rfl, hl⟩ := hu
      rw [keyIs_rep hk hl]
      exact .inr ⟨_, ks, rfl, rfl, e2, hk⟩
    · cases hk
  · cases hk
omit [Known] in
theorem KeyR.stands {P : Program} {X : Ctx} {t : TypeId} {k : AV} {u : Value} {w : World} {T B : Area} {I : Inj} (h : KeyR P X t k u) : vrep w k T B I u := by
  rcases h with ⟨_, _, ⟨j, n, rfl, rfl, _⟩ | ⟨s, rfl, rfl, _⟩⟩ | ⟨xs, ks, rfl, rfl, _, hk⟩
  · simp only [vrep]
  · simp only [vrep]
  · simp only [vrep]; exact ⟨_, rfl, keyIs_back hk⟩
omit [Known] in
theorem keyIs_same : ∀ {ks : List EK} {xs : List AV} (n : Nat), keyIs ks xs = true → (((xs.map toV).zip (xs.map toV)).all fun p => Instr.sameBits n p.1 p.2) = true
  | [], [], _, _ => rfl
  | [], _ :: _, _, h => by simp [keyIs] at h
  | k :: ks, [], _, h => by cases k <;> simp [keyIs] at h
  | k :: ks, x :: xs, n, h => by
    cases k <;> cases x <;> simp only [keyIs] at h <;> try (cases h; done)
    simp only [List.map_cons, List.zip_cons_cons, List.all_cons, keyIs_same n h, Bool.and_true, toV]
    cases n <;> simp [Instr.sameBits]
omit [Known] in
theorem KeyR.same {P : Program} {X : Ctx} {t : TypeId} {k : AV} {u : Value} (h : KeyR P X t k u) : Instr.sameBits 10000 u u = true := by
  rcases h with ⟨_, _, ⟨j, n, rfl, rfl, _⟩ | ⟨s, rfl, rfl, _⟩⟩ | ⟨xs, ks, rfl, rfl, _, hk⟩
  · simp [Instr.sameBits]
  · simp [Instr.sameBits, beq_toListBytes]
  · rw [show (10000 : Nat) = 9999 + 1 from rfl]
    have := keyIs_same 9999 hk
    simp only [Instr.sameBits, beq_self_eq_true, Bool.true_and]
    exact this

omit [Known] in
theorem sameNow_eq {P : Program} {t : TypeId} {d : TypeDesc} {k k2 : AV} {u u2 : Value} {b : Bool} {w : World} {T : Area} (hk : (∃ j n, k = .int j n ∧ u = .int j n ∧ d = .int j) ∨ (∃ s, k = .str s ∧ u = .string s ∧ d = .string)) (h : eqKey k k2 = some b) (h2 : vrep w k2 T T noInj u2) :
    Instr.sameNow d u u2 = some b := by
  rcases hk with ⟨j, n, rfl, rfl, rfl⟩ | ⟨s, rfl, rfl, rfl⟩
  · unfold eqKey at h
    split at h
    · rename_i e1
      injection e1 with q1 q2; subst q1 q2
      split at h
      · rename_i e2
        subst e2
        simp only [vrep] at h2; subst h2
        simp only [Instr.sameNow, if_true]; exact h
      · cases h
    · rename_i e1; cases e1
    · rename_i e1; cases e1
    · cases h
  · unfold eqKey at h
    split at h
    · rename_i e1; cases e1
    · rename_i e1
      injection e1 with q1; subst q1
      simp only [vrep] at h2; subst h2
      simp only [Instr.sameNow]; exact h
    · rename_i e1; cases e1
    · cases h

omit [Known] in
theorem findNow_eq {P : Program} {d : TypeDesc} {k : AV} {u : Value} {w : World} {T : Area} (hk : (∃ j n, k = .int j n ∧ u = .int j n ∧ d = .int j) ∨ (∃ s, k = .str s ∧ u = .string s ∧ d = .string)) :
    ∀ {es : List (AV × AV)} {ms : List MapEntry} {r : Option AV} (i : Nat), findA k es = some r → entRep w T es ms →
      (r = none ∧ Instr.findNow d u ms i = some none) ∨ ∃ v n m, r = some v ∧ Instr.findNow d u ms i = some (some (i + n, m.val)) ∧ ms[n]? = some m ∧ vrep w v T T noInj m.val ∧ m.key = u ∧ ∀ (x : AV) (xv : Value), vrep w x T T noInj xv → vrep w k T T noInj u → entRep w T (updA k x es) (ms.modify n fun e => { e with key := u, val := xv })
  | [], ms, r, i, h, he => by
    simp only [entRep] at he; subst he
    simp only [findA] at h; injection h with h; subst h
    exact .inl ⟨rfl, rfl⟩
  | e :: es, ms, r, i, h, he => by
    simp only [entRep] at he
    obtain ⟨m, ms', rfl, h1, h2, h3⟩ := he
    simp only [findA] at h
    split at h
    · rename_i e1
      injection h with h; subst h
      have := sameNow_eq (P := P) (t := 0) hk e1 h1
      have hkey : m.key = u := by
        rcases hk with ⟨j, n, rfl, rfl, rfl⟩ | ⟨s, rfl, rfl, rfl⟩
        · generalize m.key = u2 at this
          cases u2 <;> simp [Instr.sameNow] at this
          obtain ⟨rfl, rfl⟩ := this; rfl
        · generalize m.key = u2 at this
          cases u2 <;> simp only [Instr.sameNow, Option.some.injEq] at this <;> first | (cases this; done) | skip
          rw [beq_toListBytes, beq_iff_eq, ByteArray.toList_eq, ByteArray.toList_eq] at this
          rw [ByteArray.ext (Array.toList_inj.mp this)]
      exact .inr ⟨e.2, 0, m, rfl, by simp [Instr.findNow, this], rfl, h2, hkey, fun x xv hx hk2 => by
        simp only [updA, e1, List.modify_zero_cons, entRep]
        exact ⟨_, _, rfl, hk2, hx, h3⟩⟩
    · rename_i e1
      have := sameNow_eq (P := P) (t := 0) hk e1 h1
      rcases findNow_eq (P := P) hk (i + 1) h h3 with ⟨q1, q2⟩ | ⟨v, n, m', q1, q2, q3, q4, q5, q6⟩
      · exact .inl ⟨q1, by simp only [Instr.findNow, this]; exact q2⟩
      · exact .inr ⟨v, n + 1, m', q1, by simp only [Instr.findNow, this]; rw [q2, Nat.add_right_comm, Nat.add_assoc], by simpa using q3, q4, q5, fun x xv hx hk2 => by
        simp only [updA, e1, List.modify_succ_cons, entRep]
        exact ⟨_, _, rfl, h1, h2, q6 x xv hx hk2⟩⟩
    · cases h

omit [Known] in
theorem findA_none {k : AV} : ∀ {es : List (AV × AV)}, findA k es = some none → ∀ x, updA k x es = es ++ [(k, x)]
  | [], _, _ => rfl
  | e :: es, h, x => by
    simp only [findA] at h
    split at h
    · cases h
    · rename_i e1
      simp only [updA, e1, List.cons_append, findA_none h x]
    · cases h

omit [Known] in
theorem entRep_snoc {w : World} {T : Area} {k x : AV} {m : MapEntry} (hk : vrep w k T T noInj m.key) (hx : vrep w x T T noInj m.val) : ∀ {es : List (AV × AV)} {ms : List MapEntry}, entRep w T es ms → entRep w T (es ++ [(k, x)]) (ms ++ [m])
  | [], ms, h => by
    simp only [entRep] at h; subst h
    simp only [List.nil_append, entRep]
    exact ⟨_, _, rfl, hk, hx, rfl⟩
  | e :: es, ms, h => by
    simp only [entRep] at h
    obtain ⟨m0, ms', rfl, h1, h2, h3⟩ := h
    simp only [List.cons_append, entRep]
    exact ⟨_, _, rfl, h1, h2, entRep_snoc hk hx h3⟩

theorem checkKey_run {P : Program} {X : Ctx} (hX : CtxOK P X) {t : TypeId} {k : AV} {u : Value} {w : World} {b : Bool} (hk : KeyR P X t k u) : (Instr.checkKey b 10000 t u).run P w = .ok () w := by
  rcases hk with ⟨d, ht, hk⟩ | ⟨xs, ks, rfl, rfl, hq, hk⟩
  · have e : (10000 : Nat) = 9999 + 1 := rfl
    rw [e]
    generalize 9999 = n
    simp only [Instr.checkKey, Sem.run_bind, run_underlying ht, Result.andThen_ok]
    rcases hk with ⟨j, n, rfl, rfl, rfl⟩ | ⟨s, rfl, rfl, rfl⟩ <;> rfl
  · exact (hX.keyT t ks hq).2 xs hk b w

theorem findAsk_run {P : Program} {X : Ctx} (hX : CtxOK P X) {t : TypeId} {ks : List EK} (hq : X.eqT t = some ks) {xs : List AV} (hk : keyIs ks xs = true) {w : World} {T : Area} :
    ∀ {es : List (AV × AV)} {ms : List MapEntry} {r : Option AV} (i : Nat), findA (.agg xs) es = some r → entRep w T es ms →
      (r = none ∧ (Instr.findAsking t (.agg (xs.map toV).toArray) ms i).run P w = .ok none w) ∨ ∃ v n m, r = some v ∧ (Instr.findAsking t (.agg (xs.map toV).toArray) ms i).run P w = .ok (some (i + n, m.val)) w ∧ ms[n]? = some m ∧ vrep w v T T noInj m.val ∧ m.key = .agg (xs.map toV).toArray ∧ ∀ (x : AV) (xv : Value), vrep w x T T noInj xv → vrep w (.agg xs) T T noInj (.agg (xs.map toV).toArray) → entRep w T (updA (.agg xs) x es) (ms.modify n fun e => { e with key := .agg (xs.map toV).toArray, val := xv })
  | [], ms, r, i, h, he => by
    simp only [entRep] at he; subst he
    simp only [findA] at h; injection h with h; subst h
    exact .inl ⟨rfl, rfl⟩
  | e :: es, ms, r, i, h, he => by
    simp only [entRep] at he
    obtain ⟨m, ms', rfl, h1, h2, h3⟩ := he
    have key : ∀ b, eqKey (.agg xs) e.1 = some b → ∃ ys, e.1 = .agg ys ∧ eqKeys xs ys = some b ∧ m.key = .agg (ys.map toV).toArray ∧ (Op.equal t (.agg (xs.map toV).toArray) m.key).run P w = .ok b w := by
      intro b hb
      unfold eqKey at hb
      split at hb
      · rename_i e1 _; cases e1
      · rename_i e1 _; cases e1
      · rename_i xs' ys e1 e2
        injection e1 with e1; subst e1
        rw [e2] at h1
        simp only [vrep] at h1
        obtain ⟨us, e3, hl⟩ := h1
        have hc := eqKeys_cells hk hb
        obtain ⟨_, rfl⟩ := eqCells_toV hc (keyIs_back hk) hl
        exact ⟨ys, e2, hb, e3, by rw [e3]; exact (hX.eqT t ks hq xs ys b hc w).1⟩
      · cases hb
    simp only [findA] at h
    split at h
    · rename_i e1
      injection h with h; subst h
      obtain ⟨ys, k1, k2, k3, k4⟩ := key _ e1
      have := eqKeys_true k2
      subst this
      exact .inr ⟨e.2, 0, m, rfl, by simp only [Instr.findAsking, Sem.run_bind, k4, Result.andThen_ok]; rfl, rfl, h2, k3, fun x xv hx hk2 => by
        simp only [updA, e1, List.modify_zero_cons, entRep]
        exact ⟨_, _, rfl, hk2, hx, h3⟩⟩
    · rename_i e1
      obtain ⟨ys, k1, k2, k3, k4⟩ := key _ e1
      rcases findAsk_run hX hq hk (i + 1) h h3 with ⟨q1, q2⟩ | ⟨v, n, m', q1, q2, q3, q4, q5, q6⟩
      · exact .inl ⟨q1, by simp only [Instr.findAsking, Sem.run_bind, k4, Result.andThen_ok]; exact q2⟩
      · exact .inr ⟨v, n + 1, m', q1, by simp only [Instr.findAsking, Sem.run_bind, k4, Result.andThen_ok]; rw [show i + (n + 1) = i + 1 + n by omega]; exact q2, by simpa using q3, q4, q5, fun x xv hx hk2 => by
        simp only [updA, e1, List.modify_succ_cons, entRep]
        exact ⟨_, _, rfl, h1, h2, q6 x xv hx hk2⟩⟩
    · cases h

theorem findKey_run {P : Program} {X : Ctx} (hX : CtxOK P X) {t : TypeId} {k : AV} {u : Value} {w : World} {T : Area} {es : List (AV × AV)} {ms : List MapEntry} {r : Option AV} (hk : KeyR P X t k u) (h : findA k es = some r) (he : entRep w T es ms) :
    (r = none ∧ (Instr.findKey t u ms).run P w = .ok none w) ∨ ∃ v n m, r = some v ∧ (Instr.findKey t u ms).run P w = .ok (some (n, m.val)) w ∧ ms[n]? = some m ∧ vrep w v T T noInj m.val ∧ m.key = u ∧ ∀ (x : AV) (xv : Value), vrep w x T T noInj xv → vrep w k T T noInj u → entRep w T (updA k x es) (ms.modify n fun e => { e with key := u, val := xv }) := by
  rcases hk with ⟨d, ht, hk⟩ | ⟨xs, ks, rfl, rfl, hq, hk⟩
  · rcases findNow_eq (P := P) hk 0 h he with ⟨q1, q2⟩ | ⟨v, n, m, q1, q2, q3, q4, q5⟩
    · exact .inl ⟨q1, by simp only [Instr.findKey, Sem.run_bind, run_underlying ht, Result.andThen_ok, q2]; rfl⟩
    · exact .inr ⟨v, n, m, q1, by simp only [Instr.findKey, Sem.run_bind, run_underlying ht, Result.andThen_ok, q2, Nat.zero_add]; rfl, q3, q4, q5⟩
  · obtain ⟨fs, ht⟩ := (hX.keyT t ks hq).1
    cases ms with
    | nil =>
      cases es with
      | nil =>
        simp only [findA] at h; injection h with h; subst h
        exact .inl ⟨rfl, by simp only [Instr.findKey, Sem.run_bind, run_underlying ht, Result.andThen_ok]; rfl⟩
      | cons e es => simp only [entRep] at he; obtain ⟨_, _, he, _⟩ := he; cases he
    | cons m ms =>
      have e0 : (Instr.findKey t (.agg (xs.map toV).toArray) (m :: ms)).run P w = (Instr.findAsking t (.agg (xs.map toV).toArray) (m :: ms) 0).run P w := by
        simp only [Instr.findKey, Sem.run_bind, run_underlying ht, Result.andThen_ok]
        rfl
      rw [e0]
      rcases findAsk_run hX hq hk 0 h he with q | ⟨v, n, m', q1, q2, q3, q4, q5⟩
      · exact .inl q
      · exact .inr ⟨v, n, m', q1, by rw [q2, Nat.zero_add], q3, q4, q5⟩

omit [Known] in
theorem entRep_len {w : World} {T : Area} : ∀ {es : List (AV × AV)} {ms : List MapEntry}, entRep w T es ms → ms.length = es.length
  | [], ms, h => by simp only [entRep] at h; subst h; rfl
  | e :: es, ms, h => by
    simp only [entRep] at h
    obtain ⟨m0, ms', rfl, _, _, h3⟩ := h
    simp [entRep_len h3]
omit [Known] in
theorem run_getObj_m {P : Program} {w : World} {g clock : Nat} {ms : Array MapEntry} (h : w.heap[g]? = some (.map ms clock)) : (getObj g).run P w = .ok (.map ms clock) w := by
  simp [getObj, Sem.run, h]

theorem unCells_rep {i : TyI} {z : AV} {zv : Value} {w : World} {T B : Area} {I : Inj} (ha : isAggV zv = i.agg) (h6 : ZeroOK i.zero zv.cells.toList) (hz : unCells i i.zero = some z) : vrep w z T B I zv := by
  have hl := zero_rep (w := w) (T := T) (B := B) (I := I) h6
  unfold unCells at hz
  split at hz
  · rename_i h
    injection hz with hz; subst hz
    rw [h] at ha
    cases zv <;> first | (cases ha; done) | skip
    rename_i cs
    simp only [vrep]
    exact ⟨cs.toList, by simp, hl⟩
  · rename_i h
    have h0 : isAggV zv = false := by rw [ha]; simpa using h
    have hc : zv.cells = #[zv] := by cases zv <;> first | rfl | cases h0
    rw [hc] at hl
    obtain ⟨u, k1, k2⟩ := listRep_get hl 0 z hz
    simp at k1; subst k1
    exact k2

include hX in
theorem bs_sound {dr : Bool} {id : Nat} {t : TypeId} {len : Nat} {pos : String} {ps : List (Nat × AV)} {qs : Array (Nat × Value)} {v : AV} {nb : List Blk} (h : Rel base T B I S' w) (hps : partsRep w T B I ps qs.toList)
    (hq : bsA X dr id t len pos ps = some (v, nb)) (hfresh : ∀ b e, NewB id nb b e → I b e = none) (hnb : ∀ k blk, nb[k]? = some blk → Holds S' (id + k) blk) : QOut P base T B I S' w id nb v (Instr.buildSlice t len qs) := by
  unfold bsA at hq
  split at hq
  · rename_i el e1
    obtain ⟨_, d, _, _, _, _, _, _, _, _, k8, r1, _⟩ := ty_run (hX.ty _ _ e1)
    simp only [descOK] at k8
    subst k8
    split at hq
    · rename_i ei e2
      obtain ⟨ti, d2, z, _, _, _, _, _, k6, _, _, _, r2, _, r4, _⟩ := ty_run (hX.ty _ _ e2)
      split at hq
      · rename_i hd
        split at hq
        · rename_i hc
          injection hq with hq; injection hq with q1 q2; subst q1 q2
          obtain ⟨hd1, rfl⟩ := hd
          have hp0 : qs = #[] := by
            have h0 : ps = [] := List.eq_nil_of_length_eq_zero hc.1
            rw [h0] at hps
            simp only [partsRep] at hps
            exact Array.toList_inj.1 hps
          subst hp0
          refine ⟨T, B, I, w.alloc (.cells #[] el), .slice (some ⟨w.heap.size, 0, none⟩) 0 0, ?_, Step.quiet h ((Below.refl _ w).alloc (Nat.le_refl _) _) (fun _ h => h) (fun _ h => h) (fun _ h => .inl h) (fun _ h => .inl h), h.alloc _, by simp only [vrep]; exact ⟨_, rfl⟩, fun _ _ _ h => .inl h⟩
          have hr0 : ∀ f : Nat → Value, (Array.range 0).map f = #[] := fun f => by simp
          simp [Instr.buildSlice, r1, r2, Instr.fill, newRow]
          rw [hr0]
        · cases hq
      split at hq
      · rename_i hc
        obtain ⟨c1, c2, c3, c4⟩ := hc
        split at hq
        · rename_i rows e3
          have zl : z.cells.size = ei.size := by have := k6.1; rw [← c2, this]; simp
          have zz : ((Array.range (len * ei.size)).map fun j => z.cells[j % z.cells.size]!).toList = (List.replicate len z.cells.toList).flatten := by
            rw [← zl]; exact zeros_list z.cells len (by omega)
          have hl0 : ∀ r ∈ List.replicate len ei.zero, r.length = ei.size := fun r hr => by rw [List.eq_of_mem_replicate hr, c2]
          have hone0 : ∀ u ∈ (List.replicate len z.cells.toList).flatten, u.oneCell' = true := fun u hu => by
            rw [List.mem_flatten] at hu
            obtain ⟨l, hl, hu⟩ := hu
            rw [List.eq_of_mem_replicate hl] at hu
            exact k6.2 u hu
          obtain ⟨us', f1, f2, f3, f4, f5⟩ := rowsFill_rep (w := w) (T := T) (B := B) (I := I) (qs := qs.toList) e3 hl0 (zeros_rep (zero_rep k6) len) hps c4 hone0
          have f2' : listRep w rows.flatten T (if ps.all (fun p => stabL p.2.cells) then T else B) (if ps.all (fun p => stabL p.2.cells) then noInj else I) us'.toList := by
            split
            · rename_i hcl
              have hp : partsRep w T T noInj ps qs.toList := by
                have := parts_clean h.TB hps hcl
                simpa using this
              obtain ⟨us2, g1, g2, _⟩ := rowsFill_rep (w := w) (T := T) (B := T) (I := noInj) e3 hl0 (zeros_rep (zero_rep k6) len) hp c4 hone0
              rw [f1] at g1
              injection g1 with g1; subst g1
              exact g2
            · exact f2
          have hlen := listRep_len f2
          rw [flat_len f3, f4, List.length_replicate] at hlen
          simp only [List.length_replicate] at f4
          have hrun : (Instr.buildSlice t len qs).run P w = .ok (.slice (some ⟨w.heap.size, 0, none⟩) len len) (w.alloc (.cells us' el)) := by
            have hbig : ¬ (2 ^ 24 < len * ei.size) := by omega
            have hinit : ((Array.range (len * ei.size)).map fun j => z.cells[j % z.cells.size]!) = ((List.replicate len z.cells.toList).flatten).toArray := by
              rw [← zz]
            simp only [Instr.buildSlice, Sem.run_bind, r1, r2, Result.andThen_ok, Sem.run_ite, hbig, gt_iff_lt, if_false, Sem.run_pure]
            by_cases h0 : len * ei.size = 0
            · simp only [h0, if_true, Result.andThen_ok]
              have hinit0 : ((List.replicate len z.cells.toList).flatten).toArray = #[] := by
                rw [← hinit, h0]; simp
              rw [hinit0] at f1
              have hr0 : ∀ (f : Nat → Value), (Array.range 0).map f = #[] := fun f => by simp
              simp only [hr0, f1, Sem.run_bind, Sem.run_pure]
              simp [newRow]
            · simp only [h0, if_false, Sem.run_bind, r4, Result.andThen_ok, Sem.run_pure]
              rw [hinit, f1]
              simp [newRow]
          split at hq
          · rename_i hz
            rw [Bool.and_eq_true] at hz
            injection hq with hq; injection hq with q1 q2; subst q1 q2
            simp only [hz.2, if_true] at f2'
            have hb : Below w.heap.size w (w.alloc (.cells us' el)) := (Below.refl _ w).alloc (Nat.le_refl _) _
            refine ⟨fun g => T g ∨ g = w.heap.size, fun g => B g ∨ g = w.heap.size, I, _, _, hrun, ?_, ?_, ?_, fun _ _ _ h => .inl h⟩
            · exact Step.quiet h hb (fun _ h => .inl h) (fun _ h => .inl h) (fun g hg => hg.imp (fun h => h) (fun h => by omega)) (fun g hg => hg.imp (fun h => h) (fun h => by omega))
            · exact h.quiet hb (fun _ h => .inl h) (fun _ h => .inl h) (fun g hg => hg.imp (h.TB g) (fun h => h)) (fun g hg => hg.imp (fun h => h) (fun h => by simp; omega))
            · simp only [vrep]
              refine ⟨_, len, by rw [f4], by omega, ?_, by simp, fun _ => ⟨w.heap.size, 0, rfl, by simp [pick], ?_⟩⟩
              · unfold maxLen
                have := Nat.le_mul_of_pos_right len c3
                omega
              · rw [rowsRep_flat]
                refine ⟨f3, cellsRep_of_list (listRep_mono (T' := fun g => T g ∨ g = w.heap.size) (B' := fun g => T g ∨ g = w.heap.size) (I' := noInj) _ ⟨fun _ h => .inl h, fun _ h => .inl h, fun _ _ _ h => h, fun g hg => heap_alloc_ne _ _ (h.Blt g (h.TB g hg))⟩ (fun _ h => h) f2') f5 fun j u hj => ?_⟩
                rw [cell_of_row _ _ _ _ _ _ (heap_alloc_new w (.cells us' el)), Nat.zero_add]
                simpa using hj
          injection hq with hq; injection hq with q1 q2; subst q1 q2
          have hS' := hnb 0 _ rfl
          obtain ⟨m1, m2⟩ := h.made (b := id) (c := us') (us := us'.toList) el (hfresh _ _ (NewB.one rfl (by simp [Blk.len]))) hS' f3 f2' f5 (by rw [List.take_length])
          rw [f4] at m1 m2
          refine ⟨T, B, _, _, _, hrun, m2, m1, ?_, put_fresh (by simp [Blk.len, f4])⟩
          simp only [vrep]
          refine .inr ⟨w.heap.size, us'.size, len, Inj.put_self, by simp, Nat.le_refl _, ?_, ?_⟩
          · unfold maxLen
            have := Nat.le_mul_of_pos_right len c3
            omega
          · simp only [Array.length_toList] at hlen
            rw [Nat.zero_add, hlen]
            exact Nat.le_refl _
        · cases hq
      · cases hq
    · cases hq
  · cases hq

include hX in
theorem qop_sound {dr : Bool} {id : Nat} {fr : List AV} {a : Act} {o : Oper} {v : AV} {nb : List Blk} (h : Rel base T B I S' w) (hS : Ext S S') (hfr : ∀ x, vrep w (evalA fr x) T B I (a.eval x))
    (hq : qopA X dr S id fr o = some (v, nb)) (hfresh : ∀ b e, NewB id nb b e → I b e = none) (hnb : ∀ k blk, nb[k]? = some blk → Holds S' (id + k) blk) :
    ∃ x : Sem Value, execOp a.eval o = (do let u ← x; pure (.value u)) ∧ QOut P base T B I S' w id nb v x := by
  unfold qopA at hq
  split at hq
  · rename_i t p ho
    refine ⟨Instr.loadAt t (a.eval p), by simp only [execOp, ho], ?_⟩
    have hp := hfr p
    split at hq
    · rename_i i e1
      split at hq
      · rename_i b e sz row off e2
        rw [e2] at hp
        simp only [vrep] at hp
        obtain ⟨g, gs, hi, hu⟩ := hp
        split at hq
        · rename_i r e3
          rw [Option.map_eq_some_iff] at hq
          obtain ⟨v', hv, heq⟩ := hq
          injection heq with q1 q2; subst q1 q2
          obtain ⟨c1, c2⟩ := rowOf_rep h hS e3 hi
          exact QOut.same h (by rw [hu]; exact load_run hX e1 c1 hv)
        · cases hq
      · rename_i st r off e2
        rw [e2] at hp
        simp only [vrep] at hp
        obtain ⟨g, o', hu, p1, p2⟩ := hp
        rw [Option.map_eq_some_iff] at hq
        obtain ⟨v', hv, heq⟩ := hq
        injection heq with q1 q2; subst q1 q2
        have := cellsRep_mono (T' := T) (B' := B) (I' := I) r ⟨fun _ h => h, pick_sub h.TB, fun _ _ _ h => (by cases h), fun _ _ => rfl⟩ (sub_pick h.TB) (fun _ => rfl) p2
        exact QOut.same h (by rw [hu]; exact load_run hX e1 this hv)
      · rename_i g e2
        rw [e2] at hp
        simp only [vrep] at hp
        split at hq
        · rename_i r e3
          rw [Option.map_eq_some_iff] at hq
          obtain ⟨v', hv, heq⟩ := hq
          injection heq with q1 q2; subst q1 q2
          obtain ⟨ob, k1, k2⟩ := hX.glob _ _ e3
          exact QOut.same h (by rw [hp]; exact load_run hX e1 (k2 w T B I (h.known _ _ k1).2) hv)
        · cases hq
      · cases hq
    · cases hq
  · rename_i t ho
    refine ⟨Instr.alloc t true (.tuple #[]), by simp only [execOp, ho], ?_⟩
    split at hq
    · rename_i i e1
      obtain ⟨ti, d, z, _, _, _, _, _, k6, _, k8, q1, q2, q3, q4, q5⟩ := ty_run (hX.ty _ _ e1)
      split at hq
      · rename_i hz
        injection hq with hq; injection hq with q1 q2; subst q1 q2
        have hS' := hnb 0 _ rfl
        rw [← hz] at hS' hfresh ⊢
        exact box_out h (us := z.cells.toList) (c := z.cells) t (hfresh _ _ (NewB.one rfl (by simp [Blk.len]))) hS' (zero_rep k6) k6.2 rfl (by simp [Instr.alloc, q4, newVar, newRow])
      · cases hq
    · cases hq
  · rename_i t x ho
    refine ⟨Instr.box t (a.eval x), by simp only [execOp, ho], ?_⟩
    dsimp only at hq
    split at hq
    · rename_i hc
      injection hq with hq; injection hq with q1 q2; subst q1 q2
      obtain ⟨k1, k2⟩ := cells_rep hc (hfr x)
      refine box_out h (us := (a.eval x).cells.toList) (c := (a.eval x).cells) t (hfresh _ _ (NewB.one rfl (by simp [Blk.len]))) (hnb 0 _ rfl) ?_ k2 rfl (by simp [Instr.box, newVar, newRow])
      cases hcl : stabL (evalA fr x).cells
      · exact k1
      · exact stabL_rep h.TB _ hcl k1
    · cases hq
  · rename_i t len parts ho
    refine ⟨Instr.buildSlice t len (parts.map fun (p : Nat × Operand) => (p.1, a.eval p.2)), by simp only [execOp, ho], ?_⟩
    exact bs_sound hX h (by simpa using parts_of hfr parts.toList) hq hfresh hnb
  · rename_i t l c ho
    split at hq
    · rename_i kl n kc m e1 e2
      split at hq
      · rename_i el f1
        obtain ⟨_, d, _, _, p2, _, _, _, _, _, k8, r1, _⟩ := ty_run (hX.ty _ _ f1)
        simp only [descOK] at k8
        subst k8
        split at hq
        · rename_i ei f2
          obtain ⟨ti, d2, z, p1, _, p3, p4, p5, k6, _, _, _, r2, _, r4, _⟩ := ty_run (hX.ty _ _ f2)
          split at hq
          · rename_i hc
            obtain ⟨rfl, h0, h1, h2, h3⟩ := hc
            have hl := hfr l
            have hcc := hfr c
            rw [e1] at hl
            rw [e2] at hcc
            simp only [vrep] at hl hcc
            refine ⟨Instr.makeSlice t (a.eval l) (a.eval c), by simp only [execOp, ho], ?_⟩
            have hb := bs_sound hX h (qs := #[]) (by simp only [partsRep]) hq hfresh hnb
            obtain ⟨T', B', I', w', u, k1, k2⟩ := hb
            refine ⟨T', B', I', w', u, ?_, k2⟩
            rw [hl, hcc]
            have hbs : (Instr.buildSlice t n.toNat #[]).run P w = .ok (.slice (some ⟨w.heap.size, 0, none⟩) n.toNat n.toNat) (w.alloc (.cells (madeCells z.cells (n.toNat * ti.size)) el)) := by
              have hbig : ¬ (2 ^ 24 < n.toNat * ei.size) := by omega
              simp only [Instr.buildSlice, Sem.run_bind, r1, r2, Result.andThen_ok, Sem.run_ite, hbig, gt_iff_lt, if_false, Sem.run_pure]
              by_cases h00 : n.toNat * ei.size = 0
              · have hr0 : ∀ f g : Nat → Value, (Array.range 0).map f = (Array.range 0).map g := fun f g => by simp
                simp [h00, Instr.fill, newRow, madeCells, p4]
                rw [hr0]
              · simp [h00, r4, Instr.fill, newRow, madeCells, p4]
            rw [hbs] at k1
            have hby : (ti.bytes : Int) * n ≤ 281474976710656 := by
              have e : (ti.bytes : Int) * n = ((ei.bytes * n.toNat : Nat) : Int) := by rw [p5, Int.natCast_mul, Int.toNat_of_nonneg h0]
              rw [e]; omega
            rw [run_makeSlice w t el ti z p2 p1 p3 kl kc n n h0 (Int.le_refl _) (by rw [p4]; exact h2) hby (by omega)]
            exact k1
          · cases hq
        · cases hq
      · cases hq
    · cases hq
  · rename_i s d x ho
    refine ⟨convert s d (a.eval x), by simp only [execOp, ho], ?_⟩
    split at hq
    · rename_i el sv e1 e2 e3
      obtain ⟨_, d1, _, _, k2, _, _, _, _, _, k8, r1, _⟩ := ty_run (hX.ty _ _ e1)
      simp only [descOK] at k8
      subst k8
      obtain ⟨_, d2, _, _, k2', _, _, _, _, _, k8, r2, _⟩ := ty_run (hX.ty _ _ e2)
      simp only [descOK] at k8
      subst k8
      split at hq
      · rename_i e4
        obtain ⟨_, d3, _, _, k2'', _, _, _, _, _, k8, r3, _⟩ := ty_run (hX.ty _ _ e4)
        simp only [descOK] at k8
        subst k8
        split at hq
        · rename_i hsz
          injection hq with hq; injection hq with q1 q2; subst q1 q2
          have hx := hfr x
          rw [e3] at hx
          simp only [vrep] at hx
          rw [hx]
          have hrun := run_bytes_of_string (P := P) w s d el sv k2 k2' k2''
          have hm : sv.size ≤ maxLen := by unfold maxLen; omega
          have hcap := grownCap_ge w sv.size 0 el
          have hcap2 := grownCap_le_maxLen w sv.size 0 el hm
          generalize grownCap w sv.size 0 el = cap at hrun hcap hcap2
          have hbelow : Below w.heap.size w (w.drew.alloc (.cells (bytesRow sv cap) el ((bytesRow sv cap).size, (bytesRow sv cap).size + 1))) := (Below.refl _ _).drew.alloc (by simp) _
          have hsize : (w.drew.alloc (.cells (bytesRow sv cap) el ((bytesRow sv cap).size, (bytesRow sv cap).size + 1))).heap.size = w.heap.size + 1 := by simp
          refine ⟨fun g => T g ∨ g = w.heap.size, fun g => B g ∨ g = w.heap.size, I, _, _, hrun, ?_, ?_, ?_, fun _ _ _ h => .inl h⟩
          · exact Step.quiet h hbelow (fun _ h => .inl h) (fun _ h => .inl h) (fun g hg => hg.imp (fun h => h) (fun h => by omega)) (fun g hg => hg.imp (fun h => h) (fun h => by omega))
          · exact h.quiet hbelow (fun _ h => .inl h) (fun _ h => .inl h) (fun g hg => hg.imp (h.TB g) (fun h => h)) (fun g hg => hg.imp (fun h => h) (fun h => by omega))
          · simp only [vrep, List.length_map]
            have hlen : sv.toList.length = sv.size := by rw [ByteArray.toList_eq]; simp
            refine ⟨_, cap, by rw [hlen], by omega, hcap2, by simp, fun _ => ⟨w.heap.size, 0, rfl, by simp [pick], ?_⟩⟩
            rw [rowsRep_iff]
            intro i r hi
            rw [List.getElem?_map, Option.map_eq_some_iff] at hi
            obtain ⟨c, hc, rfl⟩ := hi
            refine ⟨rfl, ?_⟩
            simp only [cellsRep, and_true]
            refine ⟨.int .u8 c.toNat, ?_, rfl, by simp only [vrep]⟩
            have hnew : (w.drew.alloc (.cells (bytesRow sv cap) el ((bytesRow sv cap).size, (bytesRow sv cap).size + 1))).heap[w.heap.size]? = some (.cells (bytesRow sv cap) el ((bytesRow sv cap).size, (bytesRow sv cap).size + 1)) := heap_alloc_new w.drew _
            rw [cell_of_row _ _ _ _ _ _ hnew]
            rw [ByteArray.toList_eq] at hc
            obtain ⟨hi2, hi3⟩ := List.getElem?_eq_some_iff.1 hc
            rw [Nat.zero_add, Nat.mul_one, bytesRow_at sv cap i (by simpa using hi2)]
            rw [← hi3]
            simp
        · cases hq
      · cases hq
    · obtain ⟨_, d1, _, _, k2, _, _, _, _, _, k8, r1, _⟩ := ty_run (hX.ty s _ (by assumption))
      simp only [descOK] at k8
      subst k8
      obtain ⟨_, d2, _, _, k2', _, _, _, _, _, k8, r2, _⟩ := ty_run (hX.ty d _ (by assumption))
      simp only [descOK] at k8
      subst k8
      split at hq
      · rename_i rows pr e4 e5
        obtain ⟨_, d3, _, _, k2'', _, _, _, _, _, k8, r3, _⟩ := ty_run (hX.ty _ _ e4)
        simp only [descOK] at k8
        subst k8
        rw [Option.map_eq_some_iff] at hq
        obtain ⟨l, hl, heq⟩ := hq
        injection heq with q1 q2; subst q1 q2
        obtain ⟨ao, cap, hu, _, _, _, hrow⟩ := rowsOf_rep h hS e5 (hfr x)
        obtain ⟨ns, rfl, rfl⟩ := bytesOf_eq hl
        refine QOut.same h ⟨_, ?_, by simp only [vrep]; rfl⟩
        rw [hu, run_convert_bytes_string w s d _ _ _ _ k2 k2'' k2', List.length_map]
        refine bytes_str (T := T) (B := B) (I := I) fun hne => ?_
        obtain ⟨g, off, h1, h2, _⟩ := hrow (by simpa using hne)
        exact ⟨g, off, h1, noInj_mono h.TB h2⟩
      · cases hq
    · cases hq
  · rename_i t ho
    refine ⟨Instr.makeMap t ((none : Option Operand).map a.eval), by simp only [execOp, ho], ?_⟩
    injection hq with hq; injection hq with q1 q2; subst q1 q2
    have hS' := (hnb 0 _ rfl).map
    have hA := h.alloc (.map #[] 0)
    have hnew := heap_alloc_new w (.map #[] 0)
    have hb : Below w.heap.size w (w.alloc (.map #[] 0)) := (Below.refl _ w).alloc (Nat.le_refl _) _
    have hn := hfresh id 0 (NewB.one rfl (Nat.zero_le _))
    refine ⟨T, B, Inj.put I id 0 w.heap.size 0, w.alloc (.map #[] 0), .map (some w.heap.size), ?_, ?_, ?_, ?_, put_fresh (Nat.zero_le _)⟩
    · rfl
    · exact (Step.quiet h hb (fun _ h => h) (fun _ h => h) (fun _ h => .inl h) (fun _ h => .inl h)).trans (Step.inj hn)
    · refine hA.place hn h.base_le (fun hB => absurd (h.Blt _ hB) (Nat.lt_irrefl _)) (by simp) (fun b' e gs hi => absurd (h.lt hi) (Nat.lt_irrefl _)) ?_
      rw [Nat.add_zero] at hS'
      rw [hS']
      exact ⟨rfl, #[], 0, hnew, by simp [entRep], rfl, fun i m h => by simp at h⟩
    · simp only [vrep]
      exact ⟨_, _, Inj.put_self, rfl⟩
  · rename_i t x k ok ho
    refine ⟨Instr.lookup t (a.eval x) (a.eval k) ok, by simp only [execOp, ho], ?_⟩
    split at hq
    · rename_i kt et b e1 e2
      obtain ⟨_, d, _, _, k2, _, _, _, _, _, k8, r1, _⟩ := ty_run (hX.ty _ _ e1)
      simp only [descOK] at k8
      subst k8
      split at hq
      · rename_i es ki ei e3 e4 e5
        split at hq
        · rename_i hkey
          have hx := hfr x
          rw [e2] at hx
          simp only [vrep] at hx
          obtain ⟨g, gs, hi, hu⟩ := hx
          have hb := h.blk _ _ _ _ hi
          rw [(hS _ _ e3).map] at hb
          obtain ⟨_, ms, clock, hm, hent, _⟩ := hb
          have hk := keyA_rep hX e4 hkey (hfr k)
          have hlook : ∀ n v, (Instr.findKey kt (a.eval k) ms.toList).run P w = .ok (some (n, v)) w → (Instr.lookup t (a.eval x) (a.eval k) ok).run P w = .ok (if ok then .tuple #[v, .bool true] else v) w := fun n v hr => by
            simp only [Instr.lookup, Sem.run_bind, r1, Result.andThen_ok, hu, run_getObj_m hm, Sem.run_pure, checkKey_run hX hk, hr]
          have hlook0 : ∀ z, (Instr.findKey kt (a.eval k) ms.toList).run P w = .ok none w → (zeroValue et).run P w = .ok z w → (Instr.lookup t (a.eval x) (a.eval k) ok).run P w = .ok (if ok then .tuple #[z, .bool false] else z) w := fun z hr hz => by
            simp only [Instr.lookup, Sem.run_bind, r1, Result.andThen_ok, hu, run_getObj_m hm, Sem.run_pure, checkKey_run hX hk, hr, hz]
          have fin : ∀ {r : Value} {v : AV} {bb : Bool}, (Instr.lookup t (a.eval x) (a.eval k) ok).run P w = .ok (if ok then .tuple #[r, .bool bb] else r) w → vrep w v T B I r → QOut P base T B I S' w id [] (if ok = true then .tup [v, .bool bb] else v) (Instr.lookup t (a.eval x) (a.eval k) ok) := fun {r v bb} hr hv => by
            refine QOut.same h ⟨_, hr, ?_⟩
            cases ok with
            | false => exact hv
            | true =>
              simp only [if_true, vrep]
              exact ⟨[r, .bool bb], rfl, by simp only [listRep]; exact ⟨_, _, rfl, hv, _, _, rfl, by simp only [vrep], rfl⟩⟩
          split at hq
          · rename_i v _ e6
            injection hq with hq; injection hq with q1 q2; subst q1 q2
            rcases findKey_run hX hk e6 hent with ⟨q1, _⟩ | ⟨v', n, m, q1, q2, q3, q4, _⟩
            · cases q1
            · injection q1 with q1; subst q1
              exact fin (hlook _ _ q2) (vrep_mono _ ⟨fun _ h => h, h.TB, fun _ _ _ h => (by simp [noInj] at h), fun _ _ => rfl⟩ (fun _ h => h) q4)
          · rename_i z e6 e7
            injection hq with hq; injection hq with q1 q2; subst q1 q2
            obtain ⟨_, de, zv, z1, _, z3, _, _, z6, _, _, _, _, _, z4, _⟩ := ty_run (hX.ty _ _ e5)
            rcases findKey_run hX hk e6 hent with ⟨_, q2⟩ | ⟨v', n, m, q1, _⟩
            · exact fin (hlook0 _ q2 (z4 w)) (unCells_rep ((hX.ty _ _ e5).zagg _ _ z1 z3) z6 e7)
            · cases q1
          · cases hq
        · cases hq
      · cases hq
    · cases hq
  · rename_i t x ho
    refine ⟨Instr.range t (a.eval x), by simp only [execOp, ho], ?_⟩
    split at hq
    · rename_i kt et mb e1 e2
      obtain ⟨_, d, _, _, k2, _, _, _, _, _, k8, r1, _⟩ := ty_run (hX.ty _ _ e1)
      simp only [descOK] at k8
      subst k8
      split at hq
      · rename_i es e3
        split at hq
        · rename_i hle
          injection hq with hq; injection hq with q1 q2; subst q1 q2
          have hx := hfr x
          rw [e2] at hx
          simp only [vrep] at hx
          obtain ⟨gm, gsm, hi, hu⟩ := hx
          have hbk := h.blk _ _ _ _ hi
          rw [(hS _ _ e3).map] at hbk
          obtain ⟨_, ms, clock, hm, hent, hck, _⟩ := hbk
          have hlen : clock = es.length := by rw [hck, ← entRep_len hent]; simp
          have hS' := (hnb 0 _ rfl).iter
          have hA := h.alloc (.mapIter (some gm) clock #[] clock)
          have hnew := heap_alloc_new w (.mapIter (some gm) clock #[] clock)
          have hb : Below w.heap.size w (w.alloc (.mapIter (some gm) clock #[] clock)) := (Below.refl _ w).alloc (Nat.le_refl _) _
          have hn := hfresh id 0 (NewB.one rfl (Nat.zero_le _))
          have hmb : mb ≠ id := fun e => by rw [e] at hi; rw [hn] at hi; cases hi
          refine ⟨T, B, Inj.put I id 0 w.heap.size 0, w.alloc (.mapIter (some gm) clock #[] clock), .pointer (some ⟨w.heap.size, 0, none⟩), ?_, ?_, ?_, ?_, put_fresh (Nat.zero_le _)⟩
          · simp only [Instr.range, Sem.run_bind, r1, Result.andThen_ok, hu, run_getObj_m hm, Sem.run_pure]
            rfl
          · exact (Step.quiet h hb (fun _ h => h) (fun _ h => h) (fun _ h => .inl h) (fun _ h => .inl h)).trans (Step.inj hn)
          · refine hA.place hn h.base_le (fun hB => absurd (h.Blt _ hB) (Nat.lt_irrefl _)) (by simp) (fun b' e gs hi => absurd (h.lt hi) (Nat.lt_irrefl _)) ?_
            rw [Nat.add_zero] at hS'
            rw [hS']
            refine ⟨rfl, gm, gsm, ?_, by rw [hnew, hlen]; rfl⟩
            unfold Inj.put
            rw [if_neg (fun hh => hmb hh.1)]
            exact hi
          · simp only [vrep]
            exact ⟨_, _, Inj.put_self, rfl⟩
        · cases hq
      · cases hq
    · cases hq
  · rename_i x ho
    refine ⟨Instr.entry (a.eval x), by simp only [execOp, ho], ?_⟩
    split at hq
    · rename_i b e1
      split at hq
      · rename_i mb e2
        split at hq
        · rename_i e e3
          injection hq with hq; injection hq with q1 q2; subst q1 q2
          have hx := hfr x
          rw [e1] at hx
          simp only [vrep] at hx
          obtain ⟨g, gs, hi, hu⟩ := hx
          have hb := h.blk _ _ _ _ hi
          rw [(hS _ _ e2).iter] at hb
          obtain ⟨_, gm, gsm, hi2, hit⟩ := hb
          have hb2 := h.blk _ _ _ _ hi2
          rw [(hS _ _ e3).map] at hb2
          obtain ⟨_, ms, clock, hm, hent, hck, hbn⟩ := hb2
          have hl := entRep_len hent
          simp only [entRep] at hent
          obtain ⟨m, ms', hms, h1, h2, h3⟩ := hent
          subst h3
          have hms2 : ms = #[m] := by apply Array.toList_inj.1; rw [hms]
          subst hms2
          have hb0 : m.born = 0 := hbn 0 m rfl
          have mm : Mono w T T noInj w T B I := ⟨fun _ h => h, h.TB, fun _ _ _ h => (by simp [noInj] at h), fun _ _ => rfl⟩
          refine QOut.same h ⟨.tuple #[m.key, m.val], ?_, ?_⟩
          · rw [hu]
            simp only [if_true] at hit
            subst hck
            have hg1 : (getObj g).run P w = .ok (.mapIter (some gm) 1 #[0] 1) w := by simp [getObj, Sem.run, hit]
            have hg2 := run_getObj_m (P := P) hm
            simp [Instr.entry, Sem.run_bind, hg1, hg2, Result.andThen_ok, hb0]
          · simp only [vrep]
            exact ⟨[m.key, m.val], rfl, by simp only [listRep]; exact ⟨_, _, rfl, vrep_mono _ mm (fun _ h => h) h1, _, _, rfl, vrep_mono _ mm (fun _ h => h) h2, rfl⟩⟩
        · cases hq
      · cases hq
    · cases hq
  · cases hq
end
end Go.Eng
