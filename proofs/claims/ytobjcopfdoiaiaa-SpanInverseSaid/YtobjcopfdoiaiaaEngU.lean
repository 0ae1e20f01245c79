/- slices.Clone. -/
import Derived.Test.YtobjcopfdoiaiaaEngT
import Derived.Test.YtobjcopfdoiaiaaEngQ
namespace Go.Eng
open Go.RowKit

def cloneCode (t tb : TypeId) (p1 p2 p3 p4 : String) : Code :=
  .seq (.region 0 #[⟨some 2, .assign (.const (.slice none 0 0)), t, p1, #[], none⟩] false)
  (.seq (.seq (.region 1 #[⟨some 3, .move (.tmp 0), t, p2, #[], none⟩, ⟨some 4, .binOp .eql t (.tmp 3) (.const (.slice none 0 0)) t, tb, p2, #[⟨0, .data⟩], none⟩] false)
    (.cond (.tmp 4) (.seq (.region 2 #[⟨some 2, .assign (.const (.slice none 0 0)), t, p3, #[], none⟩] false) .ret) .skip))
  (.seq (.region 3 #[⟨some 5, .buildSlice t 0 #[], t, p4, #[], none⟩, ⟨some 6, .move (.tmp 0), t, p4, #[], none⟩,
      ⟨some 7, .call ⟨.builtin .append, #[.tmp 5, .tmp 6], #[t, t]⟩, t, p4, #[⟨0, .data⟩, ⟨1, .data⟩], none⟩,
      ⟨some 2, .assign (.tmp 7), t, p4, #[⟨2, .data⟩, ⟨2, .chain⟩, ⟨0, .phase⟩, ⟨1, .phase⟩, ⟨2, .phase⟩], none⟩] false) .ret))

theorem rowsOf_append {S T : Store} {sz : Nat} {x : AV} {r : List (List AV) × Bool} (h : rowsOf S sz x = some r) : rowsOf (S ++ T) sz x = some r := by
  unfold rowsOf at h ⊢
  split at h
  · exact h
  · rename_i b e off len sz'
    split at h
    · rename_i rows sz'' wep pr e1
      simp only [List.getElem?_append_left (List.getElem?_eq_some_iff.1 e1).1, e1]
      exact h
    · cases h
  · exact h
  · exact h
  · exact h
  · cases h

theorem binA_nil {X : Ctx} {t : TypeId} {y : AV} : binA X .eql t y (.flat (.slice none 0 0)) = (eqBin X t y (.flat (.slice none 0 0))).map .bool := by
  cases y <;> rfl

attribute [local irreducible] wpC wpO wp1 EvV EvR wpL

theorem clone_run {X : Ctx} {f : FuncId} {fn : Func} {t tb el : TypeId} {p1 p2 p3 p4 : String} {it ie : TyI} (hp : X.prim f = none) (hf : X.fn f = some fn) (hb : fn.body = some (cloneCode t tb p1 p2 p3 p4)) (hn : fn.ntmps = 8) (hr : fn.results = ⟨[.tmp 2]⟩)
    (ht : X.ty t = some it) (hd : it.desc = .slice el) (he : X.ty el = some ie) (h0 : 0 < ie.size) (hz : ie.zero.length = ie.size) (hby : ie.bytes ≤ 131072) {S : Store} {y : AV} {rows : List (List AV)} {pr isn : Bool}
    (hrow : rowsOf S ie.size y = some (rows, pr)) (hlen : rows.length ≤ 1073741824) (heq : eqBin X t y (.flat (.slice none 0 0)) = some isn) (hnil : isn = true → rows = []) :
    EvR X f [y] S fun r S' => r = .sl (S.length + 1) rows.length 0 rows.length ie.size ∧ S' = S ++ [.arr [] ie.size 0 true, .arr rows ie.size 0 (pr || rows.isEmpty)] := by
  have hby2 : rows.length * ie.bytes ≤ 140737488355328 := Nat.le_trans (Nat.mul_le_mul hlen hby) (by decide)
  refine EvR.walk hp hf hb hn hr ?_
  unfold cloneCode
  simp only [List.length_cons, List.length_nil, List.cons_append, List.nil_append, Nat.reduceAdd, Nat.reduceSub, List.replicate]
  refine wpC_seq (wpC_region ?_)
  refine wpO_cons fun K hK => ?_
  simp only [op1_go, wpK_assignN ht hd, nilsK, he, Bool.false_eq_true, if_false, putA_some, List.set_cons_succ, List.set_cons_zero]
  refine hK.out _ _ (wpO_nil (seqK_normal ?_))
  refine wpC_seq (wpC_seq (wpC_region ?_))
  refine wpO_cons fun K hK => ?_
  simp only [op1_go, wpK_moveT, getA_zero, putA_some, List.set_cons_succ, List.set_cons_zero]
  refine hK.out _ _ ?_
  refine wpO_cons fun K hK => ?_
  simp only [op1_go, wpK_binOp, evalA_tmp, getA_zero, getA_succ, evalA_nil, binA_nil, heq, Option.map_some, someK_some, putA_some, List.set_cons_succ, List.set_cons_zero]
  refine hK.out _ _ (wpO_nil (seqK_normal ?_))
  refine wpC_cond fun A B hA hB => ?_
  simp only [evalA_tmp, getA_zero, getA_succ, condK_bool]
  cases isn with
  | true =>
    have hr0 := hnil rfl
    subst hr0
    simp only [if_true]
    refine hA.out (wpC_seq (wpC_region ?_))
    refine wpO_cons fun K hK => ?_
    simp only [op1_go, wpK_assignN ht hd, nilsK, he, Bool.false_eq_true, if_false, putA_some, List.set_cons_succ, List.set_cons_zero]
    refine hK.out _ _ (wpO_nil (seqK_normal ?_))
    refine wpC_ret (seqK_ret (finK_ret ?_))
    simp only [resultsR, resultsL, resultA, resK_some, getA_zero, getA_succ, List.length_append, List.length_cons, List.length_nil, List.append_assoc, List.cons_append, List.nil_append, List.isEmpty_nil, Bool.or_true, and_self, Nat.zero_add]
  | false =>
    simp only [Bool.false_eq_true, if_false]
    refine hB.out (wpC_skip (seqK_normal ?_))
    refine wpC_seq (wpC_region ?_)
    refine wpO_cons fun K hK => ?_
    rw [op1_go, wpK_buildSlice ht hd, he]
    have hbs : bslA (some it) (some ie) false (S ++ [Blk.arr [] ie.size 0 true]).length 0 [] = some (.sl (S.length + 1) 0 0 0 ie.size, [.arr [] ie.size 0 true]) := by
      obtain ⟨a1, a2, a3, a4, a5⟩ := it
      simp only at hd
      subst hd
      simp [bslA, hz, h0, rowsFill]
    simp only [List.map_nil, hbs, pairK_some, putA_some, List.set_cons_succ, List.set_cons_zero]
    refine hK.out _ _ ?_
    refine wpO_cons fun K hK => ?_
    simp only [op1_go, wpK_moveT, getA_zero, putA_some, List.set_cons_succ, List.set_cons_zero]
    refine hK.out _ _ ?_
    refine wpO_cons fun K hK => ?_
    have hrow2 : rowsOf (S ++ [Blk.arr [] ie.size 0 true] ++ [Blk.arr [] ie.size 0 true]) ie.size y = some (rows, pr) := rowsOf_append (rowsOf_append hrow)
    have hget : (S ++ [Blk.arr [] ie.size 0 true] ++ [Blk.arr [] ie.size 0 true])[S.length + 1]? = some (Blk.arr [] ie.size 0 true) := by simp
    have hset : (S ++ [Blk.arr [] ie.size 0 true] ++ [Blk.arr [] ie.size 0 true]).set (S.length + 1) (Blk.arr rows ie.size 0 pr) = S ++ [Blk.arr [] ie.size 0 true, Blk.arr rows ie.size 0 pr] := by simp [List.set_append]
    rw [op1_go, wpK_append ht hd, he]
    simp only [evalA_tmp, getA_zero, getA_succ, appK, decide_true, h0, hz, and_self, if_true, hrow2, hget, Bool.false_eq_true, if_false, List.length_nil, Nat.zero_add, hby2, true_and, and_true, Nat.le_refl, List.nil_append, Bool.true_and, hset]
    rw [if_pos (by omega)]
    by_cases hr0 : rows.length = 0
    · have hr1 := List.length_eq_zero_iff.1 hr0
      subst hr1
      simp only [List.length_nil, if_true, putA_some, List.set_cons_succ, List.set_cons_zero]
      refine hK.out _ _ ?_
      refine wpO_cons fun K hK => ?_
      simp only [op1_go, wpK_assignT, getA_zero, getA_succ, putA_some, List.set_cons_succ, List.set_cons_zero]
      refine hK.out _ _ (wpO_nil (seqK_normal ?_))
      refine wpC_ret (finK_ret ?_)
      simp only [resultsR, resultsL, resultA, resK_some, getA_zero, getA_succ, List.append_assoc, List.cons_append, List.nil_append, List.isEmpty_nil, Bool.or_true, List.length_nil, and_self]
    · have hne : rows.isEmpty = false := by cases rows with
        | nil => simp at hr0
        | cons a l => rfl
      rw [if_neg hr0]
      simp only [putA_some, List.set_cons_succ, List.set_cons_zero]
      refine hK.out _ _ ?_
      refine wpO_cons fun K hK => ?_
      simp only [op1_go, wpK_assignT, getA_zero, getA_succ, putA_some, List.set_cons_succ, List.set_cons_zero]
      refine hK.out _ _ (wpO_nil (seqK_normal ?_))
      refine wpC_ret (finK_ret ?_)
      simp only [resultsR, resultsL, resultA, resK_some, getA_zero, getA_succ, hne, Bool.or_false, and_self]

theorem primClone_sound {P : Program} {X : Ctx} (hX : CtxOK P X) {f : FuncId} {fn : Func} {t tb el : TypeId} {p1 p2 p3 p4 : String} {it ie : TyI} (hf : P.funcs[f]? = some fn) (hnm : (fn.name == "runtime.NumGoroutine") = false) (hb : fn.body = some (cloneCode t tb p1 p2 p3 p4)) (hn : fn.ntmps = 8) (hr : fn.results = ⟨[.tmp 2]⟩)
    (ht : X.ty t = some it) (hd : it.desc = .slice el) (he : X.ty el = some ie) (h0 : 0 < ie.size) (hz : ie.zero.length = ie.size) (hby : ie.bytes ≤ 131072)
    (hreg : regsOK { X with prim := fun _ => none, fn := fun g => if g = f then some fn else none } (cloneCode t tb p1 p2 p3 p4) = true) : PrimSound P f (primClone ie.size) := by
  refine ⟨⟨fn, hf, hnm, by rw [hb]; rfl⟩, ?_⟩
  intro args S r S' hp base T B I w vs hrel hargs
  have hX0 : CtxOK P { X with prim := fun _ => none, fn := fun g => if g = f then some fn else none } := ⟨hX.mixed, hX.ty, hX.eqT⟩
  have hF0 : FnsOK P { X with prim := fun _ => none, fn := fun g => if g = f then some fn else none } := by
    refine ⟨fun g fn' h => ?_, fun g p h => by cases h⟩
    simp only at h
    split at h
    · rename_i hg
      subst hg
      injection h with h
      subst h
      exact ⟨hf, hnm, fun c hc => by rw [hb] at hc; injection hc with hc; subst hc; exact hreg⟩
    · cases h
  unfold primClone at hp
  split at hp
  · rename_i x
    split at hp
    · rename_i rows pr e1
      split at hp
      · rename_i hlen
        injection hp with hp
        injection hp with q1 q2
        simp only [listRep] at hargs
        obtain ⟨u, us, rfl, hu, rfl⟩ := hargs
        obtain ⟨ao, cap, rfl, g1, g2, g3, g4⟩ := rowsOf_rep hrel (S := S) (fun b blk h => h) e1 hu
        have fin : ∀ (y : AV) (pr' isn : Bool), vrep w y T B I (.slice ao rows.length cap) → rowsOf S ie.size y = some (rows, pr') → (pr' || rows.isEmpty) = (pr || rows.isEmpty) → eqBin X t y (.flat (.slice none 0 0)) = some isn → (isn = true → rows = []) →
            Calls P f [Value.slice ao rows.length cap].toArray w fun e w' => ∃ u T' B' I', e = .returned u ∧ Step base T B I w T' B' I' w' ∧ Rel base T' B' I' (sig S') w' ∧ vrep w' r T' B' I' u := by
          intro y pr' isn hy hrow hpr heq hnil
          have hw : EvR _ f [y] S _ := clone_run (X := { X with prim := fun _ => none, fn := fun g => if g = f then some fn else none }) rfl (by simp) hb hn hr ht hd he h0 hz hby hrow hlen heq hnil
          unfold EvR at hw
          obtain ⟨n, r', S1, k1, k2, k3⟩ := hw
          rw [hpr] at k3
          have := callN_sound hX0 hF0 n f [y] S r' S1 k1 base T B I w [.slice ao rows.length cap] hrel (by simp only [listRep]; exact ⟨_, [], rfl, hy, rfl⟩)
          rw [k2, q1, k3, q2] at this
          exact this
        have hty : ∀ x, (x : AV) = x := fun _ => rfl
        obtain ⟨a1, a2, a3, a4, a5⟩ := it
        simp only at hd
        subst hd
        cases rows with
        | nil =>
          cases ao with
          | none =>
            have := g1 rfl
            subst this
            exact fin (.flat (.slice none 0 0)) true true (by simp only [vrep]; rfl) (by simp [rowsOf]) (by simp) (by simp [eqBin, ht]) (fun _ => rfl)
          | some a => exact fin (.flat (.slice (some a) 0 cap)) true false (by simp only [vrep]; rfl) (by simp [rowsOf, g3]) (by simp) (by simp [eqBin, ht]) (fun h => by cases h)
        | cons row rows =>
          refine fin x pr false hu e1 rfl ?_ (fun h => by cases h)
          unfold rowsOf at e1
          split at e1
          · split at e1
            · injection e1 with e1; injection e1 with e1; subst e1
              simp [eqBin, ht]
            · cases e1
          · rename_i b e off len sz'
            split at e1
            · split at e1
              · injection e1 with e1; injection e1 with e1
                cases len with
                | zero => simp at e1
                | succ len => simp [eqBin, ht]
              · cases e1
            · cases e1
          · injection e1 with e1; injection e1 with e1; cases e1
          · injection e1 with e1; injection e1 with e1; cases e1
          · split at e1
            · injection e1 with e1; injection e1 with e1; cases e1
            · cases e1
          · cases e1
      · cases hp
    · cases hp
  · cases hp
end Go.Eng
