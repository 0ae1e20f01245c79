/- slices.Clone. -/
import Derived.Test.YtoeogoeahmlgnaaGreatDoorEngT
import Derived.Test.YtoeogoeahmlgnaaGreatDoorEngS
import Derived.Test.YtoeogoeahmlgnaaGreatDoorEngQ
set_option linter.all false
namespace Go.Eng
open Go.RowKit
variable [Known]

def cloneCode (t tb : TypeId) (p1 p2 p3 p4 : String) : Code :=
  .seq (.region 0 #[⟨some 2, .assign (.const (.slice none 0 0)), t, p1, #[], none⟩] false)
  (.seq (.seq (.region 1 #[⟨some 3, .move (.tmp 0), t, p2, #[], none⟩, ⟨some 4, .binOp .eql t (.tmp 3) (.const (.slice none 0 0)) t, tb, p2, #[⟨0, .data⟩], none⟩] false)
    (.cond (.tmp 4) (.seq (.region 2 #[⟨some 2, .assign (.const (.slice none 0 0)), t, p3, #[], none⟩] false) .ret) .skip))
  (.seq (.region 3 #[⟨some 5, .buildSlice t 0 #[], t, p4, #[], none⟩, ⟨some 6, .move (.tmp 0), t, p4, #[], none⟩,
      ⟨some 7, .call ⟨.builtin .append, #[.tmp 5, .tmp 6], #[t, t]⟩, t, p4, #[⟨0, .data⟩, ⟨1, .data⟩], none⟩,
      ⟨some 2, .assign (.tmp 7), t, p4, #[⟨2, .data⟩, ⟨2, .chain⟩, ⟨0, .phase⟩, ⟨1, .phase⟩, ⟨2, .phase⟩], none⟩] false) .ret))

omit [Known] in
theorem rowsOf_append {S T : Store} {sz : Nat} {x : AV} {r : List (List AV) × Bool} (h : rowsOf S sz x = some r) : rowsOf (S ++ T) sz x = some r := by
  unfold rowsOf at h ⊢
  split at h
  · exact h
  · rename_i b e off len sz'
    split at h
    · rename_i rows sz'' wep pr e1
      simp only [List.getElem?_append_left (List.getElem?_eq_some_iff.1 e1).1, e1]
      exact h
    · cases h
  · exact h
  · exact h
  · exact h
  · cases h

omit [Known] in
theorem binA_nil {X : Ctx} {t : TypeId} {y : AV} : binA X .eql t y (.flat (.slice none 0 0)) = (eqBin X t y (.flat (.slice none 0 0))).map .bool := by
  cases y <;> rfl

attribute [local irreducible] wpC wpO wp1 EvV EvR wpL

omit [Known] in
theorem clone_run {X : Ctx} (hfz : ∀ p, X.frz p = false) {f : FuncId} {fn : Func} {t tb el : TypeId} {p1 p2 p3 p4 : String} {it ie : TyI} (hp : X.prim f = none) (hf : X.fn f = some fn) (hb : fn.body = some (cloneCode t tb p1 p2 p3 p4)) (hn : fn.ntmps = 8) (hr : fn.results = ⟨[.tmp 2]⟩)
    (ht : X.ty t = some it) (hd : it.desc = .slice el) (he : X.ty el = some ie) (h0 : 0 < ie.size) (hz : ie.zero.length = ie.size) (hby : ie.bytes ≤ 131072) {S : Store} {y : AV} {rows : List (List AV)} {pr isn : Bool}
    (hrow : rowsOf S ie.size y = some (rows, pr)) (hlen : rows.length ≤ 1073741824) (heq : eqBin X t y (.flat (.slice none 0 0)) = some isn) (hnil : isn = true → rows = []) :
    EvR X f [y] S fun r S' => r = .sl (S.length + 1) rows.length 0 rows.length ie.size ∧ S' = S ++ [.arr [] ie.size 0 true, .arr rows ie.size 0 (pr || rows.isEmpty)] := by
  have hby2 : rows.length * ie.bytes ≤ 140737488355328 := Nat.le_trans (Nat.mul_le_mul hlen hby) (by decide)
  refine EvR.walk hp hf hb hn hr ?_
  unfold cloneCode
  simp only [List.length_cons, List.length_nil, List.cons_append, List.nil_append, Nat.reduceAdd, Nat.reduceSub, List.replicate]
  refine wpC_seq (wpC_region ?_)
  refine wpO_cons fun K hK => ?_
  simp only [op1_go, wpK_assignN ht hd, nilsK, he, Bool.false_eq_true, if_false, putA_some, List.set_cons_succ, List.set_cons_zero]
  refine hK.out _ _ (wpO_nil (seqK_normal ?_))
  refine wpC_seq (wpC_seq (wpC_region ?_))
  refine wpO_cons fun K hK => ?_
  simp only [op1_go, wpK_moveT, getA_zero, putA_some, List.set_cons_succ, List.set_cons_zero]
  refine hK.out _ _ ?_
  refine wpO_cons fun K hK => ?_
  simp only [op1_go, wpK_binOp, evalA_tmp, getA_zero, getA_succ, evalA_nil, binA_nil, heq, Option.map_some, someK_some, putA_some, List.set_cons_succ, List.set_cons_zero]
  refine hK.out _ _ (wpO_nil (seqK_normal ?_))
  refine wpC_cond fun A B hA hB => ?_
  simp only [evalA_tmp, getA_zero, getA_succ, condK_bool]
  cases isn with
  | true =>
    have hr0 := hnil rfl
    subst hr0
    simp only [if_true]
    refine hA.out (wpC_seq (wpC_region ?_))
    refine wpO_cons fun K hK => ?_
    simp only [op1_go, wpK_assignN ht hd, nilsK, he, Bool.false_eq_true, if_false, putA_some, List.set_cons_succ, List.set_cons_zero]
    refine hK.out _ _ (wpO_nil (seqK_normal ?_))
    refine wpC_ret (seqK_ret (finK_ret ?_))
    simp only [resultsR, resultsL, resultA, resK_some, getA_zero, getA_succ, List.length_append, List.length_cons, List.length_nil, List.append_assoc, List.cons_append, List.nil_append, List.isEmpty_nil, Bool.or_true, and_self, Nat.zero_add]
  | false =>
    simp only [Bool.false_eq_true, if_false]
    refine hB.out (wpC_skip (seqK_normal ?_))
    refine wpC_seq (wpC_region ?_)
    refine wpO_cons fun K hK => ?_
    rw [op1_go, wpK_buildSlice ht hd (hfz _), he]
    have hbs : bslA (some it) (some ie) false (S ++ [Blk.arr [] ie.size 0 true]).length 0 [] = some (.sl (S.length + 1) 0 0 0 ie.size, [.arr [] ie.size 0 true]) := by
      obtain ⟨a1, a2, a3, a4, a5⟩ := it
      simp only at hd
      subst hd
      simp [bslA, hz, h0, rowsFill]
    simp only [List.map_nil, hbs, pairK_some, putA_some, List.set_cons_succ, List.set_cons_zero]
    refine hK.out _ _ ?_
    refine wpO_cons fun K hK => ?_
    simp only [op1_go, wpK_moveT, getA_zero, putA_some, List.set_cons_succ, List.set_cons_zero]
    refine hK.out _ _ ?_
    refine wpO_cons fun K hK => ?_
    have hrow2 : rowsOf (S ++ [Blk.arr [] ie.size 0 true] ++ [Blk.arr [] ie.size 0 true]) ie.size y = some (rows, pr) := rowsOf_append (rowsOf_append hrow)
    have hget : (S ++ [Blk.arr [] ie.size 0 true] ++ [Blk.arr [] ie.size 0 true])[S.length + 1]? = some (Blk.arr [] ie.size 0 true) := by simp
    have hset : (S ++ [Blk.arr [] ie.size 0 true] ++ [Blk.arr [] ie.size 0 true]).set (S.length + 1) (Blk.arr rows ie.size 0 pr) = S ++ [Blk.arr [] ie.size 0 true, Blk.arr rows ie.size 0 pr] := by simp [List.set_append]
    rw [op1_go, wpK_append ht hd, he]
    simp only [evalA_tmp, getA_zero, getA_succ, appK, decide_true, h0, hz, and_self, if_true, hrow2, hget, Bool.false_and, Bool.false_eq_true, if_false, List.length_nil, Nat.zero_add, hby2, true_and, and_true, Nat.le_refl, List.nil_append, Bool.true_and, hset]
    rw [if_pos (by omega)]
    by_cases hr0 : rows.length = 0
    · have hr1 := List.length_eq_zero_iff.1 hr0
      subst hr1
      simp only [List.length_nil, if_true, putA_some, List.set_cons_succ, List.set_cons_zero]
      refine hK.out _ _ ?_
      refine wpO_cons fun K hK => ?_
      simp only [op1_go, wpK_assignT, getA_zero, getA_succ, putA_some, List.set_cons_succ, List.set_cons_zero]
      refine hK.out _ _ (wpO_nil (seqK_normal ?_))
      refine wpC_ret (finK_ret ?_)
      simp only [resultsR, resultsL, resultA, resK_some, getA_zero, getA_succ, List.append_assoc, List.cons_append, List.nil_append, List.isEmpty_nil, Bool.or_true, List.length_nil, and_self]
    · have hne : rows.isEmpty = false := by cases rows with
        | nil => simp at hr0
        | cons a l => rfl
      rw [if_neg hr0]
      simp only [putA_some, List.set_cons_succ, List.set_cons_zero]
      refine hK.out _ _ ?_
      refine wpO_cons fun K hK => ?_
      simp only [op1_go, wpK_assignT, getA_zero, getA_succ, putA_some, List.set_cons_succ, List.set_cons_zero]
      refine hK.out _ _ (wpO_nil (seqK_normal ?_))
      refine wpC_ret (finK_ret ?_)
      simp only [resultsR, resultsL, resultA, resK_some, getA_zero, getA_succ, hne, Bool.or_false, and_self]

theorem primClone_sound {P : Program} {X : Ctx} (hX : CtxOK P X) {f : FuncId} {fn : Func} {t tb el : TypeId} {p1 p2 p3 p4 : String} {it ie : TyI} (hf : P.funcs[f]? = some fn) (hnm : (fn.name == "runtime.NumGoroutine") = false) (hb : fn.body = some (cloneCode t tb p1 p2 p3 p4)) (hn : fn.ntmps = 8) (hr : fn.results = ⟨[.tmp 2]⟩)
    (ht : X.ty t = some it) (hd : it.desc = .slice el) (he : X.ty el = some ie) (h0 : 0 < ie.size) (hz : ie.zero.length = ie.size) (hby : ie.bytes ≤ 131072)
    (hreg : regsOK { X with prim := fun _ => none, fn := fun g => if g = f then some fn else none, frz := fun _ => false } (cloneCode t tb p1 p2 p3 p4) = true) : PrimSound P f (primClone ie.size) := by
  refine ⟨⟨fn, hf, hnm, by rw [hb]; rfl⟩, ?_⟩
  intro args S r S' hp base T B I w vs hrel hargs
  have hX0 : CtxOK P { X with prim := fun _ => none, fn := fun g => if g = f then some fn else none, frz := fun _ => false } := ⟨hX.mixed, hX.ty, hX.eqT, hX.meth, hX.keyT, hX.glob⟩
  have hF0 : FnsOK P { X with prim := fun _ => none, fn := fun g => if g = f then some fn else none, frz := fun _ => false } := by
    refine ⟨fun g fn' h => ?_, fun g p h => by cases h⟩
    simp only at h
    split at h
    · rename_i hg
      subst hg
      injection h with h
      subst h
      exact ⟨hf, hnm, fun c hc => by rw [hb] at hc; injection hc with hc; subst hc; exact hreg⟩
    · cases h
  unfold primClone at hp
  split at hp
  · rename_i x
    split at hp
    · rename_i rows pr e1
      split at hp
      · rename_i hlen
        injection hp with hp
        injection hp with q1 q2
        simp only [listRep] at hargs
        obtain ⟨u, us, rfl, hu, rfl⟩ := hargs
        obtain ⟨ao, cap, rfl, g1, g2, g3, g4⟩ := rowsOf_rep hrel (S := S) (fun b blk h => Holds.of h) e1 hu
        have fin : ∀ (y : AV) (pr' isn : Bool), vrep w y T B I (.slice ao rows.length cap) → rowsOf S ie.size y = some (rows, pr') → (pr' || rows.isEmpty) = (pr || rows.isEmpty) → eqBin X t y (.flat (.slice none 0 0)) = some isn → (isn = true → rows = []) →
            Calls P f [Value.slice ao rows.length cap].toArray w fun e w' => ∃ u T' B' I', e = .returned u ∧ Step base T B I w T' B' I' w' ∧ Rel base T' B' I' (sig S') w' ∧ vrep w' r T' B' I' u := by
          intro y pr' isn hy hrow hpr heq hnil
          have hw : EvR _ f [y] S _ := clone_run (X := { X with prim := fun _ => none, fn := fun g => if g = f then some fn else none, frz := fun _ => false }) (fun _ => rfl) rfl (by simp) hb hn hr ht hd he h0 hz hby hrow hlen heq hnil
          unfold EvR at hw
          obtain ⟨n, r', S1, k1, k2, k3⟩ := hw
          rw [hpr] at k3
          have := callN_sound hX0 hF0 n f [y] S r' S1 k1 base T B I w [.slice ao rows.length cap] hrel (by simp only [listRep]; exact ⟨_, [], rfl, hy, rfl⟩)
          rw [k2, q1, k3, q2] at this
          exact this
        have hty : ∀ x, (x : AV) = x := fun _ => rfl
        obtain ⟨a1, a2, a3, a4, a5⟩ := it
        simp only at hd
        subst hd
        cases rows with
        | nil =>
          cases ao with
          | none =>
            have := g1 rfl
            subst this
            exact fin (.flat (.slice none 0 0)) true true (by simp only [vrep]; rfl) (by simp [rowsOf]) (by simp) (by simp [eqBin, ht]) (fun _ => rfl)
          | some a => exact fin (.flat (.slice (some a) 0 cap)) true false (by simp only [vrep]; rfl) (by simp [rowsOf, g3]) (by simp) (by simp [eqBin, ht]) (fun h => by cases h)
        | cons row rows =>
          refine fin x pr false hu e1 rfl ?_ (fun h => by cases h)
          unfold rowsOf at e1
          split at e1
          · split at e1
            · injection e1 with e1; injection e1 with e1; subst e1
              simp [eqBin, ht]
            · cases e1
          · rename_i b e off len sz'
            split at e1
            · split at e1
              · injection e1 with e1; injection e1 with e1
                cases len with
                | zero => simp at e1
                | succ len => simp [eqBin, ht]
              · cases e1
            · cases e1
          · injection e1 with e1; injection e1 with e1; cases e1
          · injection e1 with e1; injection e1 with e1; cases e1
          · split at e1
            · injection e1 with e1; injection e1 with e1; cases e1
            · cases e1
          · cases e1
      · cases hp
    · cases hp
  · cases hp

/-- The slice value holds the ints zs, in a block below n₀; or it shows none. -/
def IntsIn (n₀ : Nat) (W : World) (sv : Value) (zs : List Int) : Prop :=
  (∃ ao cap, sv = .slice ao 0 cap ∧ zs = []) ∨ ∃ b off cap, sv = .slice (some ⟨b, off, none⟩) zs.length cap ∧ b < n₀ ∧ ∀ j, j < zs.length → W.cell? ⟨b, off + j, none⟩ = some (.int .i64 (zs[j]?.getD 0))

omit [Known] in
theorem intsOf_eq : ∀ {rows : List (List AV)} {l : List Int}, intsOf rows = some l → rows = l.map fun n => [AV.int .i64 n]
  | [], l, h => by simp [intsOf] at h; subst h; rfl
  | r :: rest, l, h => by
    unfold intsOf at h
    split at h
    · rename_i hh; cases hh
    · rename_i n rest' hh
      injection hh with h1 h2; subst h1 h2
      split at h
      · rename_i l' e
        injection h with h; subst h
        rw [intsOf_eq e]; rfl
      · cases h
    · cases h

theorem primSeq_sound {P : Program} {f v1 : FuncId} {te : TypeId} {fn : Func} (hf : P.funcs[f]? = some fn) (hnm : (fn.name == "runtime.NumGoroutine") = false) (hb : fn.body.isNone = false)
    (hc : ∀ (Bs ob : Nat) (sv : Value) (zs : List Int), zs.length ≤ maxLen → zs.length * 8 ≤ 140737488351232 → ∀ w : World, Bs < w.heap.size → w.cell? ⟨Bs, ob, none⟩ = some sv → IntsIn w.heap.size w sv zs →
      Calls P f #[.slice none 0 0, .func (.func v1) #[] #[.pointer (some ⟨Bs, ob, none⟩)]] w fun e W' => ∃ v, e = .returned v ∧ W'.ownsRow w.heap.size te 1 v zs.length (zs.map (Value.int .i64)) ∧ (v = .slice none 0 0 ↔ zs = []) ∧ Below w.heap.size w W') :
    PrimSound P f (primSeq v1) := by
  refine ⟨⟨fn, hf, hnm, hb⟩, ?_⟩
  intro args S r S' hp base T B I w vs hrel hargs
  unfold primSeq at hp
  split at hp
  · rename_i g st sv
    split at hp
    · rename_i hg
      subst hg
      split at hp
      · rename_i l el
        split at hp
        · rename_i hlen
          simp only [listRep, vrep] at hargs
          obtain ⟨_, _, rfl, rfl, _, _, rfl, ⟨us, rfl, u1, us1, rfl, ⟨g0, o0, rfl, hpk, hcr⟩, rfl⟩, rfl⟩ := hargs
          simp only [cellsRep] at hcr
          obtain ⟨⟨u, hu1, _, hu3⟩, _⟩ := hcr
          have hlt : g0 < w.heap.size := hrel.Blt _ (pick_sub (st := st) hrel.TB _ hpk)
          have hI : IntsIn w.heap.size w u l := by
            unfold seqInts at el
            split at el
            · rename_i st' rows
              have er := intsOf_eq el
              simp only [vrep] at hu3
              obtain ⟨ao, cap, rfl, _, _, h4, h5⟩ := hu3
              cases l with
              | nil => subst er; exact .inl ⟨ao, cap, rfl, rfl⟩
              | cons x l =>
                obtain ⟨g', off', rfl, hpk', hrr⟩ := h5 (by rw [er]; simp)
                refine .inr ⟨g', off', cap, by rw [er]; simp, ?_, ?_⟩
                · have h1 := pick_sub (st := st') (sub_pick (st := st) hrel.TB) _ hpk'
                  exact hrel.Blt _ (pick_sub (st := st) hrel.TB _ h1)
                · intro j hj
                  obtain ⟨_, hcj⟩ := rowsRep_iff.1 hrr j [.int .i64 ((x :: l)[j]?.getD 0)] (by rw [er, List.getElem?_map, List.getElem?_eq_getElem hj]; rfl)
                  simp only [cellsRep, vrep] at hcj
                  obtain ⟨⟨u', k1, _, rfl⟩, _⟩ := hcj
                  simpa using k1
            · injection el with el; subst el
              simp only [vrep] at hu3; subst hu3
              exact .inl ⟨none, 0, rfl, rfl⟩
            · injection el with el; subst el
              simp only [vrep] at hu3
              obtain ⟨ao, rfl⟩ := hu3
              exact .inl ⟨ao, 0, rfl, rfl⟩
            · cases el
          have hc' := hc g0 o0 u l (by unfold maxLen; omega) (by omega) w hlt hu1 hI
          refine hc'.mono ?_
          rintro e W' ⟨v, rfl, hown, hnil, hbel⟩
          have hr1 : Rel base T B I (sig S) W' := hrel.quiet hbel (fun _ h => h) (fun _ h => h) hrel.TB (fun _ h => .inl h)
          have hs1 : Step base T B I w T B I W' := Step.quiet hrel hbel (fun _ h => h) (fun _ h => h) (fun _ h => .inl h) (fun _ h => .inl h)
          split at hp
          · rename_i h0
            injection hp with hp; injection hp with q1 q2; subst q1 q2
            have : l = [] := List.eq_nil_of_length_eq_zero h0
            exact ⟨v, T, B, I, rfl, hs1, hr1, by simp only [vrep]; exact hnil.2 this⟩
          · rename_i h0
            injection hp with hp; injection hp with q1 q2; subst q1 q2
            have hne : l ≠ [] := fun e => h0 (by rw [e]; rfl)
            rcases hown.2 with ⟨rfl, _⟩ | ⟨gb, cap, cur, rfl, hge, hgb, k1, k2, k3, k4⟩
            · exact absurd (hnil.1 rfl) hne
            · have hfresh : ∀ e, I S.length e = none := hrel.fresh (Nat.le_refl _)
              have hview : Rel base T B I (sig (S ++ [.arr (l.map fun n => [.int .i64 n]) 1 0 true])) W' := hr1.view fun b e p hi => by
                obtain ⟨blk, hS, _⟩ := hrel.cov hi
                simp only [sig]
                rw [List.getElem?_append_left (List.getElem?_eq_some_iff.1 hS).1]
              have hnew := hview.newBlk (b := S.length) (g := gb) (rows := l.map fun n => [.int .i64 n]) (sz := 1) (pr := true) (c := cur) (ty := te) (hfresh _) (Holds.of (by simp [sig])) (Nat.le_trans hrel.base_le hge)
                (fun hB => absurd (hrel.Blt _ hB) (by omega)) (fun b e gs hi => absurd (hrel.lt hi) (by omega)) hgb (by simp; omega)
                (rowsRep_iff.2 fun i r hr => by
                  rw [List.getElem?_map] at hr
                  cases hi : l[i]? with
                  | none => rw [hi] at hr; cases hr
                  | some x =>
                    rw [hi] at hr
                    injection hr with hr; subst hr
                    refine ⟨rfl, ?_⟩
                    simp only [cellsRep, vrep]
                    refine ⟨⟨.int .i64 x, ?_, rfl, rfl⟩, trivial⟩
                    have hil := (List.getElem?_eq_some_iff.1 hi).1
                    have hcu : cur.toList[i]? = some (.int .i64 x) := by
                      have := congrArg (fun q => q[i]?) k4
                      simp only [List.getElem?_map, hi, Option.map_some] at this
                      rw [List.getElem?_take_of_lt (by omega)] at this
                      exact this
                    simp only [World.cell?, hgb, Nat.zero_add, Nat.mul_one]
                    simpa using hcu)
              refine ⟨_, T, B, _, rfl, hs1.trans (Step.inj (hfresh _)), hnew, ?_⟩
              simp only [vrep, List.length_map]
              exact .inr ⟨gb, cur.size, cap, Inj.put_self, by simp, k1, k2, by omega⟩
        · cases hp
      · cases hp
    · cases hp
  · cases hp

omit [Known] in
theorem EvV.prim {X : Ctx} {f : FuncId} {p : List AV → Store → Option (AV × Store)} {args : List AV} {r v : AV} {S : Store} (hp : X.prim f = some p) (h : p args [] = some (r, S)) (he : exportA S r = some v) : EvV X f args (· = v) :=
  EvV.intro 1 (r := v) (by simp only [callV, callN, hp, h, he]) rfl

theorem primTrue_sound {P : Program} {X : Ctx} (hX : CtxOK P X) (hF : FnsOK P X) {f : FuncId} {fn : Func} (hf : P.funcs[f]? = some fn) (hnm : (fn.name == "runtime.NumGoroutine") = false) (hb : fn.body.isNone = false) (h : EvV X f [] (· = .bool true)) : PrimSound P f primTrue := by
  refine ⟨⟨fn, hf, hnm, hb⟩, ?_⟩
  intro args S r S' hp base T B I w vs hrel hargs
  unfold primTrue at hp
  split at hp
  · injection hp with hp; injection hp with q1 q2; subst q1 q2
    simp only [listRep] at hargs; subst hargs
    have := calls_of_EvV (W := w) (vs := #[]) hX hF (fun g o k => (hrel.known g o k).2) (by simp only [listRep]) h
    refine this.mono fun e w' ⟨he, hb⟩ => ⟨_, T, B, I, he, Step.quiet hrel hb (fun _ h => h) (fun _ h => h) (fun _ h => .inl h) (fun _ h => .inl h), hrel.quiet hb (fun _ h => h) (fun _ h => h) hrel.TB (fun _ h => .inl h), by simp only [vrep]⟩
  · cases hp
end Go.Eng
