/- A seat's tables are the program's. -/
import Derived.Test.YtoeogoeahmlgnaaGreatDoorEngS
import Derived.KernelRfl
set_option linter.all false
namespace Go.Eng
open Go.RowKit
variable [Known]

def tdOf : TypeDesc → TD
  | .int k => .int k
  | .string => .str
  | .bool => .bool
  | .slice e => .slice e
  | .struct fs => .struct (fs.toList.map fun f => (f.offset, f.type))
  | .array n e => .array n e
  | .map k e => .map k e
  | _ => .other

def fieldsOK (P : Program) : TypeDesc → Bool
  | .struct fs => (fs.toList.mapM (fun f => (P.info? f.type).map fun i => (f.offset, i.size))).isSome
  | _ => true

def tyOf (P : Program) (t : TypeId) : Option TyI :=
  match P.info? t, P.underlying t with
  | some ti, some d => match ti.zero with
    | some z => if z.cells.toList.all Value.oneCell' = true ∧ fieldsOK P d = true ∧ isAggV z = isAggD d then some ⟨ti.size, isAggD d, ti.bytes, z.cells.toList.map ofC, tdOf d⟩ else none
    | none => none
  | _, _ => none

omit [Known] in
theorem tyOf_ok {P : Program} {t : TypeId} {i : TyI} (h : tyOf P t = some i) : TyOK P t i := by
  unfold tyOf at h
  split at h
  · rename_i ti d e1 e2
    split at h
    · rename_i z e3
      split at h
      · rename_i hc
        injection h with h; subst h
        refine ⟨⟨ti, d, z, e1, e2, e3, rfl, rfl, ⟨rfl, fun u hu => List.all_eq_true.1 hc.1 u hu⟩, rfl, ?_⟩, fun ti' z' k1 k2 => ?_⟩
        · cases d <;> simp only [tdOf, descOK] <;> first | trivial | rfl | exact ⟨_, rfl, rfl, hc.2.1⟩
        · rw [e1] at k1; injection k1 with k1; subst k1
          rw [e3] at k2; injection k2 with k2; subst k2
          exact hc.2.2
      · cases h
    · cases h
  · cases h

def ekOf (P : Program) (t : TypeId) : Option EK :=
  match P.underlying t with
  | some (.int _) => some .int
  | some .bool => some .bool
  | some .string => some .str
  | _ => none

def eksL (P : Program) : List Field → Nat → Option (List EK)
  | [], _ => some []
  | f :: fs, k => if (f.name == "_") = false ∧ f.offset = k then match ekOf P f.type, eksL P fs (k + 1) with
      | some e, some l => some (e :: l)
      | _, _ => none
    else none

/-- With structs inside. -/
def eksG (P : Program) (inner : List Field → Nat → Option (List EK)) : List Field → Nat → Option (List EK)
  | [], _ => some []
  | f :: fs, k => if (f.name == "_") = false ∧ f.offset = k then match ekOf P f.type with
      | some e => match eksG P inner fs (k + 1) with
        | some l => some (e :: l)
        | none => none
      | none => match P.underlying f.type, P.info? f.type with
        | some (.struct gs), some ti => if P.stoodInHeld f.type = false then match inner gs.toList 0 with
            | some l1 => if ti.size = l1.length then (match eksG P inner fs (k + l1.length) with
              | some l => some (l1 ++ l)
              | none => none) else none
            | none => none
          else none
        | _, _ => none
    else none
def eksF (P : Program) : Nat → List Field → Nat → Option (List EK)
  | 0 => eksL P
  | n + 1 => eksG P (eksF P n)

def eksT (P : Program) (t : TypeId) : Option (List EK) :=
  match P.underlying t with
  | some (.struct fs) => if P.stoodInHeld t = false ∧ P.eqGuardType P.depth t = false then eksF P 3 fs.toList 0 else none
  | _ => none

instance : DecidableEq EK := fun a b => by
  cases a <;> cases b <;> first | exact isTrue rfl | exact isFalse (by simp)

section
variable {P : Program}

omit [Known] in
theorem run_ekField {t : TypeId} {e : EK} (ht : ekOf P t = some e) {X : List Value} {k : Nat} {v : Value} (hx : X[k]? = some v) (w : World) : (part t X.toArray k).run P w = .ok v w := by
  unfold ekOf at ht
  have go : ∀ d, P.underlying t = some d → isAggD d = false → (part t X.toArray k).run P w = .ok v w := by
    intro d hd ha
    have hi : (isAgg t).run P w = .ok false w := by
      unfold isAgg
      simp only [Sem.run_bind, run_underlying hd, Result.andThen_ok]
      rw [← ha]
      cases d <;> rfl
    simp [part, hi, hx]
  split at ht
  · rename_i e1; exact go _ e1 rfl
  · rename_i e1; exact go _ e1 rfl
  · rename_i e1; exact go _ e1 rfl
  · cases ht

omit [Known] in
theorem run_ekEqual {t : TypeId} {e : EK} (ht : ekOf P t = some e) {x y : AV} {b : Bool} (h : eqCell e x y = some b) (d : Nat) (w : World) : (Op.equalIn (d + 1) t (toV x) (toV y)).run P w = .ok b w := by
  unfold ekOf at ht
  split at ht
  · rename_i k e1
    injection ht with ht; subst ht
    unfold eqCell at h
    split at h
    · rename_i k1 a k2 c hh
      split at h
      · rename_i hk
        subst hk
        injection h with h; subst h
        exact run_equalIn_int w d t k1 k a c e1
      · cases h
    · rename_i hh; cases hh
    · rename_i hh; cases hh
    · cases h
  · rename_i e1
    injection ht with ht; subst ht
    unfold eqCell at h
    split at h
    · rename_i hh; cases hh
    · rename_i a c hh
      injection h with h; subst h
      exact run_equalIn_bool' w d t a c e1
    · rename_i hh; cases hh
    · cases h
  · rename_i e1
    injection ht with ht; subst ht
    unfold eqCell at h
    split at h
    · rename_i hh; cases hh
    · rename_i hh; cases hh
    · rename_i a c hh
      injection h with h; subst h
      rw [beq_toListBytes]
      exact run_equalIn_string w d t a c e1
    · cases h
  · cases ht

omit [Known] in
theorem run_eksL {d : Nat} {X Y : List Value} (w : World) : ∀ (fs : List Field) (k : Nat) (ks : List EK), eksL P fs k = some ks → ∀ (xs ys : List AV) (b : Bool), eqCells ks xs ys = some b → X.drop k = xs.map toV → Y.drop k = ys.map toV →
    (Op.eqFields (d + 1) X.toArray Y.toArray fs).run P w = .ok b w
  | [], k, ks, h, xs, ys, b, hb, _, _ => by
    simp only [eksL, Option.some.injEq] at h
    subst h
    cases xs <;> cases ys <;> simp [eqCells] at hb
    subst hb
    simp [Op.eqFields]
  | f :: fs, k, ks, h, xs, ys, b, hb, hx, hy => by
    simp only [eksL] at h
    split at h
    · rename_i hc
      obtain ⟨hn, hoff⟩ := hc
      have hn' : f.name ≠ "_" := by simpa using hn
      split at h
      · rename_i e l e1 e2
        injection h with h; subst h
        match xs, ys with
        | [], _ => simp [eqCells] at hb
        | _ :: _, [] => simp [eqCells] at hb
        | x :: xs, y :: ys =>
          simp only [eqCells] at hb
          split at hb
          · rename_i a c e3 e4
            injection hb with hb; subst hb
            have gx : X[k]? = some (toV x) := by
              have := congrArg (fun l => l[0]?) hx
              simpa using this
            have gy : Y[k]? = some (toV y) := by
              have := congrArg (fun l => l[0]?) hy
              simpa using this
            have dx : X.drop (k + 1) = xs.map toV := by
              have := congrArg List.tail hx
              simpa [List.tail_drop] using this
            have dy : Y.drop (k + 1) = ys.map toV := by
              have := congrArg List.tail hy
              simpa [List.tail_drop] using this
            have ih := run_eksL (d := d) w fs (k + 1) l e2 xs ys c e4 dx dy
            simp only [Op.eqFields, hn', ne_eq, not_false_eq_true, if_true, Sem.run_bind, hoff, run_ekField e1 gx, run_ekField e1 gy, Result.andThen_ok, run_ekEqual e1 e3]
            cases a with
            | false => simp
            | true => simpa using ih
          · cases hb
      · cases h
    · cases h

omit [Known] in
theorem eqCells_app : ∀ {k1 k2 : List EK} {xs ys : List AV} {b : Bool}, eqCells (k1 ++ k2) xs ys = some b → ∃ b1 b2, eqCells k1 (xs.take k1.length) (ys.take k1.length) = some b1 ∧ eqCells k2 (xs.drop k1.length) (ys.drop k1.length) = some b2 ∧ b = (b1 && b2)
  | [], k2, xs, ys, b, h => ⟨true, b, by simp [eqCells], by simpa using h, by simp⟩
  | k :: k1, k2, [], ys, b, h => by cases ys <;> simp [eqCells] at h
  | k :: k1, k2, x :: xs, [], b, h => by simp [eqCells] at h
  | k :: k1, k2, x :: xs, y :: ys, b, h => by
    simp only [List.cons_append, eqCells] at h
    split at h
    · rename_i a c e1 e2
      injection h with h; subst h
      obtain ⟨b1, b2, h1, h2, rfl⟩ := eqCells_app e2
      exact ⟨a && b1, b2, by simp only [List.length_cons, List.take_succ_cons, eqCells, e1, h1], by simpa using h2, by rw [Bool.and_assoc]⟩
    · cases h
omit [Known] in
theorem eqCells_len : ∀ {ks : List EK} {xs ys : List AV} {b : Bool}, eqCells ks xs ys = some b → xs.length = ks.length ∧ ys.length = ks.length
  | [], [], [], _, _ => ⟨rfl, rfl⟩
  | [], [], _ :: _, b, h => by simp [eqCells] at h
  | [], _ :: _, _, b, h => by simp [eqCells] at h
  | _ :: _, [], _, b, h => by simp [eqCells] at h
  | _ :: _, _ :: _, [], b, h => by simp [eqCells] at h
  | k :: ks, x :: xs, y :: ys, b, h => by
    simp only [eqCells] at h
    split at h
    · rename_i a c e1 e2
      have := eqCells_len e2
      simp [this]
    · cases h

omit [Known] in
theorem run_eksF (w : World) (d : Nat) : ∀ (n : Nat) (fs : List Field) (k : Nat) (ks : List EK), eksF P n fs k = some ks → ∀ (X Y : List Value) (xs ys : List AV) (b : Bool), eqCells ks xs ys = some b → X.drop k = xs.map toV → Y.drop k = ys.map toV →
    (Op.eqFields (d + n + 1) X.toArray Y.toArray fs).run P w = .ok b w
  | 0, fs, k, ks, h, X, Y, xs, ys, b, hb, hx, hy => run_eksL (d := d) w fs k ks h xs ys b hb hx hy
  | n + 1, fs, k, ks, h, X, Y, xs, ys, b, hb, hx, hy => by
    have inner := run_eksF w d n
    simp only [eksF] at h
    induction fs generalizing k ks xs ys b with
    | nil =>
      simp only [eksG, Option.some.injEq] at h
      subst h
      cases xs <;> cases ys <;> simp [eqCells] at hb
      subst hb
      simp [Op.eqFields]
    | cons f fs ih =>
      simp only [eksG] at h
      split at h
      · rename_i hc
        obtain ⟨hn, hoff⟩ := hc
        have hn' : f.name ≠ "_" := by simpa using hn
        split at h
        · rename_i e e1
          split at h
          · rename_i l e2
            injection h with h; subst h
            match xs, ys with
            | [], _ => simp [eqCells] at hb
            | _ :: _, [] => simp [eqCells] at hb
            | x :: xs, y :: ys =>
              simp only [eqCells] at hb
              split at hb
              · rename_i a c e3 e4
                injection hb with hb; subst hb
                have gx : X[k]? = some (toV x) := by
                  have := congrArg (fun l => l[0]?) hx
                  simpa using this
                have gy : Y[k]? = some (toV y) := by
                  have := congrArg (fun l => l[0]?) hy
                  simpa using this
                have dx : X.drop (k + 1) = xs.map toV := by
                  have := congrArg List.tail hx
                  simpa [List.tail_drop] using this
                have dy : Y.drop (k + 1) = ys.map toV := by
                  have := congrArg List.tail hy
                  simpa [List.tail_drop] using this
                have ih := ih (k + 1) l e2 xs ys c e4 dx dy
                simp only [Op.eqFields, hn', ne_eq, not_false_eq_true, if_true, Sem.run_bind, hoff, run_ekField e1 gx, run_ekField e1 gy, Result.andThen_ok, run_ekEqual e1 e3]
                cases a with
                | false => simp
                | true => simpa using ih
              · cases hb
          · cases h
        · rename_i e1
          split at h
          · rename_i gs ti e2 e3
            split at h
            · rename_i hst
              split at h
              · rename_i l1 e4
                split at h
                · rename_i hsz
                  split at h
                  · rename_i l e5
                    injection h with h; subst h
                    obtain ⟨b1, b2, c1, c2, rfl⟩ := eqCells_app hb
                    have ag : (isAgg f.type).run P w = .ok true w := by
                      unfold isAgg
                      simp only [Sem.run_bind, run_underlying e2, Result.andThen_ok]
                      rfl
                    have sz : (sizeOf f.type).run P w = .ok l1.length w := by simp [sizeOf, typeInfo, e3, hsz]
                    have pt : ∀ (Z : List Value), (part f.type Z.toArray k).run P w = .ok (.agg ((Z.drop k).take l1.length).toArray) w := fun Z => by
                      simp only [part, Sem.run_bind, ag, Result.andThen_ok, if_true, sz, Sem.run_pure]
                      congr 2
                      apply Array.toList_inj.1
                      simp [List.extract_eq_take_drop]
                    have hf : P.fieldsOf f.type = gs := by simp [Program.fieldsOf, e2]
                    have eqn : (Op.equalIn (d + (n + 1) + 1) f.type (.agg ((X.drop k).take l1.length).toArray) (.agg ((Y.drop k).take l1.length).toArray)).run P w = .ok b1 w := by
                      rw [run_equalIn_struct w (d + (n + 1)) f.type _ _ (by rw [hf, e2]) hst, hf]
                      exact inner gs.toList 0 l1 e4 _ _ (xs.take l1.length) (ys.take l1.length) b1 c1 (by rw [hx, List.drop_zero, List.map_take]) (by rw [hy, List.drop_zero, List.map_take])
                    have ih := ih (k + l1.length) l e5 (xs.drop l1.length) (ys.drop l1.length) b2 c2 (by rw [← List.drop_drop, hx, List.map_drop]) (by rw [← List.drop_drop, hy, List.map_drop])
                    simp only [Op.eqFields, hn', ne_eq, not_false_eq_true, if_true, Sem.run_bind, hoff, pt, Result.andThen_ok, eqn]
                    cases b1 with
                    | false => simp
                    | true => simpa using ih
                  · cases h
                · cases h
              · cases h
            · cases h
          · cases h
      · cases h

omit [Known] in
theorem eksT_ok {t : TypeId} {ks : List EK} (h : eksT P t = some ks) (xs ys : List AV) (b : Bool) (hb : eqCells ks xs ys = some b) (w : World) :
    (Op.equal t (.agg (xs.map toV).toArray) (.agg (ys.map toV).toArray)).run P w = .ok b w ∧
    ∀ op x y, (eqGuard op t x y (.agg (xs.map toV).toArray) (.agg (ys.map toV).toArray)).run P w = .ok () w := by
  unfold eksT at h
  split at h
  · rename_i fs e1
    split at h
    · rename_i hc
      have hf : P.fieldsOf t = fs := by simp [Program.fieldsOf, e1]
      refine ⟨?_, fun op x y => run_eqGuard_agg w op t x y _ _ hc.2⟩
      unfold Op.equal
      rw [show Op.maxDepth = 9999 + 1 from rfl, run_equalIn_struct w 9999 t _ _ (by rw [hf, e1]) hc.1, hf]
      exact run_eksF w 9995 3 fs.toList 0 ks h _ _ xs ys b hb (by simp) (by simp)
    · cases h
  · cases h

omit [Known] in
theorem run_checkBasic {t : TypeId} {e : EK} (ht : ekOf P t = some e) (v : Value) (b : Bool) (d : Nat) (w : World) : (Instr.checkKey b (d + 1) t v).run P w = .ok () w := by
  unfold ekOf at ht
  split at ht
  · rename_i k e1
    simp only [Instr.checkKey, Sem.run_bind, run_underlying e1, Result.andThen_ok]; rfl
  · rename_i e1
    simp only [Instr.checkKey, Sem.run_bind, run_underlying e1, Result.andThen_ok]; rfl
  · rename_i e1
    simp only [Instr.checkKey, Sem.run_bind, run_underlying e1, Result.andThen_ok]; rfl
  · cases ht
omit [Known] in
theorem run_checkStruct {t : TypeId} {fs : Array Field} (ht : P.underlying t = some (.struct fs)) (b : Bool) (d : Nat) (X : Array Value) (w : World) (h : ∀ f ∈ fs.toList, ∃ v, (part f.type X f.offset).run P w = .ok v w ∧ (Instr.checkKey b d f.type v).run P w = .ok () w) :
    (Instr.checkKey b (d + 1) t (.agg X)).run P w = .ok () w := by
  simp only [Instr.checkKey, Sem.run_bind, run_underlying ht, Result.andThen_ok]
  rw [← Array.forIn_toList]
  generalize fs.toList = l at h
  have key : ∀ l : List Field, (∀ f ∈ l, ∃ v, (part f.type X f.offset).run P w = .ok v w ∧ (Instr.checkKey b d f.type v).run P w = .ok () w) →
      ((forIn l PUnit.unit fun f _ => do
        if f.name ≠ "_" then do
          let v ← part f.type X f.offset
          Instr.checkKey b d f.type v
          pure (ForInStep.yield PUnit.unit)
        else pure (ForInStep.yield PUnit.unit)) : Sem PUnit).run P w = .ok PUnit.unit w := by
    intro l
    induction l with
    | nil => intro _; simp
    | cons f l ih =>
      intro h
      obtain ⟨v, h1, h2⟩ := h f (by simp)
      have ih := ih fun g hg => h g (by simp [hg])
      rw [List.forIn_cons]
      by_cases hn : f.name ≠ "_"
      · simp only [if_pos hn, Sem.run_bind, h1, h2, Result.andThen_ok, Sem.run_pure, ih]
      · simp only [if_neg hn, Sem.run_bind, Result.andThen_ok, Sem.run_pure, ih]
  have := key l h
  simp at this ⊢
  rw [this]; rfl
omit [Known] in
theorem keyIs_app : ∀ {k1 k2 : List EK} {xs : List AV}, keyIs (k1 ++ k2) xs = true → keyIs k1 (xs.take k1.length) = true ∧ keyIs k2 (xs.drop k1.length) = true
  | [], k2, xs, h => ⟨rfl, by simpa using h⟩
  | k :: k1, k2, [], h => by cases k <;> simp [keyIs] at h
  | k :: k1, k2, x :: xs, h => by
    cases k <;> cases x <;> simp only [List.cons_append, keyIs] at h <;> try (cases h; done)
    have := keyIs_app h
    exact ⟨by simpa [keyIs] using this.1, by simpa using this.2⟩
omit [Known] in
theorem run_keyF (w : World) (b : Bool) (d : Nat) : ∀ (n : Nat) (fs : List Field) (k : Nat) (ks : List EK), eksF P n fs k = some ks → ∀ (X : List Value) (xs : List AV), keyIs ks xs = true → X.drop k = xs.map toV →
    ∀ f ∈ fs, ∃ v, (part f.type X.toArray f.offset).run P w = .ok v w ∧ (Instr.checkKey b (d + n + 1) f.type v).run P w = .ok () w
  | 0, fs, k, ks, h, X, xs, hk, hx => by
    simp only [eksF] at h
    induction fs generalizing k ks xs with
    | nil => intro f hf; cases hf
    | cons f fs ih =>
      simp only [eksL] at h
      split at h
      · rename_i hc
        split at h
        · rename_i e l e1 e2
          injection h with h; subst h
          match xs with
          | [] => cases e <;> simp [keyIs] at hk
          | x :: xs =>
            have gx : X[k]? = some (toV x) := by
              have := congrArg (fun l => l[0]?) hx
              simpa using this
            have dx : X.drop (k + 1) = xs.map toV := by
              have := congrArg List.tail hx
              simpa [List.tail_drop] using this
            have hk2 : keyIs l xs = true := by cases e <;> cases x <;> simp only [keyIs] at hk <;> first | exact hk | cases hk
            intro g hg
            rcases List.mem_cons.1 hg with rfl | hg
            · exact ⟨toV x, by rw [hc.2]; exact run_ekField e1 gx w, run_checkBasic e1 _ b _ w⟩
            · exact ih (k + 1) l e2 xs hk2 dx g hg
        · cases h
      · cases h
  | n + 1, fs, k, ks, h, X, xs, hk, hx => by
    have inner := run_keyF w b d n
    simp only [eksF] at h
    induction fs generalizing k ks xs with
    | nil => intro f hf; cases hf
    | cons f fs ih =>
      simp only [eksG] at h
      split at h
      · rename_i hc
        split at h
        · rename_i e e1
          split at h
          · rename_i l e2
            injection h with h; subst h
            match xs with
            | [] => cases e <;> simp [keyIs] at hk
            | x :: xs =>
              have gx : X[k]? = some (toV x) := by
                have := congrArg (fun l => l[0]?) hx
                simpa using this
              have dx : X.drop (k + 1) = xs.map toV := by
                have := congrArg List.tail hx
                simpa [List.tail_drop] using this
              have hk2 : keyIs l xs = true := by cases e <;> cases x <;> simp only [keyIs] at hk <;> first | exact hk | cases hk
              intro g hg
              rcases List.mem_cons.1 hg with rfl | hg
              · exact ⟨toV x, by rw [hc.2]; exact run_ekField e1 gx w, run_checkBasic e1 _ b _ w⟩
              · exact ih (k + 1) l e2 xs hk2 dx g hg
          · cases h
        · rename_i e1
          split at h
          · rename_i gs ti e2 e3
            split at h
            · rename_i hst
              split at h
              · rename_i l1 e4
                split at h
                · rename_i hsz
                  split at h
                  · rename_i l e5
                    injection h with h; subst h
                    obtain ⟨c1, c2⟩ := keyIs_app hk
                    have ag : (isAgg f.type).run P w = .ok true w := by
                      unfold isAgg
                      simp only [Sem.run_bind, run_underlying e2, Result.andThen_ok]
                      rfl
                    have sz : (sizeOf f.type).run P w = .ok l1.length w := by simp [sizeOf, typeInfo, e3, hsz]
                    have pt : ∀ (Z : List Value), (part f.type Z.toArray k).run P w = .ok (.agg ((Z.drop k).take l1.length).toArray) w := fun Z => by
                      simp only [part, Sem.run_bind, ag, Result.andThen_ok, if_true, sz, Sem.run_pure]
                      congr 2
                      apply Array.toList_inj.1
                      simp [List.extract_eq_take_drop]
                    intro g hg
                    rcases List.mem_cons.1 hg with rfl | hg
                    · refine ⟨_, by rw [hc.2]; exact pt X, run_checkStruct e2 b _ _ w ?_⟩
                      exact inner gs.toList 0 l1 e4 _ (xs.take l1.length) c1 (by rw [hx, List.drop_zero, List.map_take])
                    · exact ih (k + l1.length) l e5 (xs.drop l1.length) c2 (by rw [← List.drop_drop, hx, List.map_drop]) g hg
                  · cases h
                · cases h
              · cases h
            · cases h
          · cases h
      · cases h
omit [Known] in
theorem eksT_key {t : TypeId} {ks : List EK} (h : eksT P t = some ks) : (∃ fs, P.underlying t = some (.struct fs)) ∧ ∀ xs, keyIs ks xs = true → ∀ b w, (Instr.checkKey b 10000 t (.agg (xs.map toV).toArray)).run P w = .ok () w := by
  unfold eksT at h
  split at h
  · rename_i fs e1
    split at h
    · refine ⟨⟨fs, e1⟩, fun xs hk b w => ?_⟩
      rw [show (10000 : Nat) = 9995 + 3 + 1 + 1 from rfl]
      exact run_checkStruct e1 b _ _ w (run_keyF w b 9995 3 fs.toList 0 ks h _ xs hk (by simp))
    · cases h
  · cases h

/-! ### The tables -/
structure Tab where
  tys : List (Option TyI)
  fns : List FuncId
  refs : List FuncId
  clones : List (FuncId × TypeId × TypeId × TypeId)
  eqs : List (TypeId × List EK)
  seqs : List (FuncId × FuncId) := []
  trues : List FuncId := []
  prims : List (FuncId × (List AV → Store → Option (AV × Store))) := []
  frz : List (List Nat) := []
  meths : List (TypeId × String × FuncId) := []
  refMs : List String := []
  nests : List FuncId := []
  globs : List (Nat × List Int) := []
  lates : List (List Nat × List Nat) := []

/-- The numbers of rows that are numbers. -/
def intsOf : List (List AV) → Option (List Int)
  | [] => some []
  | [.int .i64 n] :: rest => match intsOf rest with
    | some l => some (n :: l)
    | none => none
  | _ => none

def seqInts : AV → Option (List Int)
  | .tsl _ 1 rows => intsOf rows
  | .flat (.slice none 0 0) => some []
  | .esl => some []
  | _ => none

/-- slices.AppendSeq onto nothing, at the iterator 'v1' of slices.Values over a slice of ints. -/
def primSeq (v1 : FuncId) (args : List AV) (S : Store) : Option (AV × Store) :=
  match args with
  | [.flat (.slice none 0 0), .fn g [.tptr _ [sv] 0]] => if g = v1 then match seqInts sv with
    | some l => if l.length ≤ 1099511627776 then
        (if l.length = 0 then some (.flat (.slice none 0 0), S) else some (.sl S.length l.length 0 l.length 1, S ++ [.arr (l.map fun n => [.int .i64 n]) 1 0 true]))
      else none
    | none => none
    else none
  | _ => none

/-- A function without arguments that returns true. -/
def primTrue (args : List AV) (S : Store) : Option (AV × Store) :=
  match args with
  | [] => some (.bool true, S)
  | _ => none

def szOf (tab : Tab) (t : TypeId) : Nat :=
  match tab.tys.getD t none with
  | some i => i.size
  | none => 0

def mkC (tab : Tab) (P : Program) : Ctx where
  ty := fun t => tab.tys.getD t none
  fn := fun f => if tab.fns.contains f then P.funcs[f]? else none
  byRef := fun f => tab.refs.contains f
  prim := fun f => match tab.clones.find? fun c => c.1 == f with
    | some c => some (primClone (szOf tab c.2.2.1))
    | none => match tab.seqs.find? fun c => c.1 == f with
      | some c => some (primSeq c.2)
      | none => if tab.trues.contains f then some primTrue else (tab.prims.find? fun c => c.1 == f).map (·.2)
  eqT := fun t => (tab.eqs.find? fun p => p.1 == t).map (·.2)
  frz := fun p => tab.frz.contains (p.toList.map Char.toNat)
  meth := fun t m => (tab.meths.find? fun e => e.1 == t && decide (e.2.1 = m)).map (·.2.2)
  refM := fun m => tab.refMs.any fun x => decide (x = m)
  nest := fun f => tab.nests.contains f
  late := fun p => match tab.lates.find? fun e => e.1 == p.toList.map Char.toNat with
    | some e => e.2
    | none => []
  glob := fun g => (tab.globs.find? fun p => p.1 == g).map fun p => p.2.map fun n => .int .i64 n

/-- A method of a type that is no pointer, with its receiver by value. -/
def methOK (P : Program) (e : TypeId × String × FuncId) : Bool :=
  match P.info? e.1, P.underlying e.1 with
  | some ti, some d => (match ti.methods.find? (fun x => x.name == e.2.1) with
    | some m => m.path.isEmpty && decide (m.func = some (e.2.2, false)) && (match d with | .pointer _ => false | _ => true)
    | none => false)
  | _, _ => false

omit [Known] in
theorem method_run {P : Program} {e : TypeId × String × FuncId} (h : methOK P e = true) (v : Value) (w : World) : (method (P.types.size + Made.depth) e.1 v e.2.1).run P w = .ok (e.2.2, v) w := by
  unfold methOK at h
  split at h
  · rename_i ti d h1 h2
    split at h
    · rename_i m h3
      simp only [Bool.and_eq_true, decide_eq_true_eq] at h
      obtain ⟨⟨h4, h5⟩, h6⟩ := h
      have hp : m.path.toList = [] := by simpa using h4
      have e0 : P.types.size + Made.depth = (P.types.size + 99) + 1 := rfl
      rw [e0]
      generalize P.types.size + 99 = n
      simp only [method, Sem.run_bind, typeInfo, run_program, Result.andThen_ok, h1, Sem.run_pure, h3, hp, follow, h5, receiverAt, run_underlying h2]
      cases d <;> first | rfl | cases h6
    · cases h
  · cases h

theorem mkC_ctx {tab : Tab} (hm : P.follows .mixedOrders = true) {ts : List TypeId} (hty : tab.tys = ts.map fun t => if t = 0 then none else tyOf P t) (hts : ∀ (j : Nat) t, ts[j]? = some t → t = 0 ∨ t = j)
    (heq : (tab.eqs.all fun p => decide (eksT P p.1 = some p.2)) = true) (hme : tab.meths.all (methOK P) = true) (hgl : ∀ p ∈ tab.globs, ∃ o, Known.blk p.1 = some o ∧ ∀ (w : World) (T B : Area) (I : Inj), w.heap[p.1]? = some o → cellsRep w (p.2.map fun n => .int .i64 n) T B I p.1 0) : CtxOK P (mkC tab P) where
  mixed := hm
  ty := fun t i h => by
    simp only [mkC, hty, List.getD_eq_getElem?_getD, List.getElem?_map] at h
    cases e : ts[t]? with
    | none => simp [e] at h
    | some t' =>
      simp only [e, Option.map_some, Option.getD_some] at h
      split at h
      · cases h
      · rename_i h0
        rcases hts t t' e with rfl | rfl
        · exact absurd rfl h0
        · exact tyOf_ok h
  eqT := fun t ks h => by
    simp only [mkC, Option.map_eq_some_iff] at h
    obtain ⟨p, h1, rfl⟩ := h
    have h2 := List.mem_of_find?_eq_some h1
    have h3 := List.find?_some h1
    simp only [beq_iff_eq] at h3
    have h4 := List.all_eq_true.1 heq p h2
    simp only [decide_eq_true_eq] at h4
    rw [h3] at h4
    exact fun xs ys b hb w => eksT_ok h4 xs ys b hb w
  keyT := fun t ks h => by
    simp only [mkC, Option.map_eq_some_iff] at h
    obtain ⟨p, h1, rfl⟩ := h
    have h2 := List.mem_of_find?_eq_some h1
    have h3 := List.find?_some h1
    simp only [beq_iff_eq] at h3
    have h4 := List.all_eq_true.1 heq p h2
    simp only [decide_eq_true_eq] at h4
    rw [h3] at h4
    exact eksT_key h4
  glob := fun g row h => by
    simp only [mkC, Option.map_eq_some_iff] at h
    obtain ⟨p, h1, rfl⟩ := h
    have h2 := List.mem_of_find?_eq_some h1
    have h3 := List.find?_some h1
    simp only [beq_iff_eq] at h3
    rw [← h3]
    exact hgl p h2
  meth := fun t m f h v w => by
    simp only [mkC, Option.map_eq_some_iff] at h
    obtain ⟨e, h1, rfl⟩ := h
    have h2 := List.mem_of_find?_eq_some h1
    have h3 := List.find?_some h1
    simp only [Bool.and_eq_true, beq_iff_eq, decide_eq_true_eq] at h3
    rw [← h3.1, ← h3.2]
    exact method_run (List.all_eq_true.1 hme e h2) v w

def idxOK : List Nat → Nat → Bool
  | [], _ => true
  | t :: ts, k => (t == 0 || t == k) && idxOK ts (k + 1)

omit [Known] in
theorem idxOK_ok {ts : List Nat} (h : idxOK ts 0 = true) : ∀ (j : Nat) (t : Nat), ts[j]? = some t → t = 0 ∨ t = j := by
  have go : ∀ (ts : List Nat) (k : Nat), idxOK ts k = true → ∀ (j : Nat) (t : Nat), ts[j]? = some t → t = 0 ∨ t = k + j := by
    intro ts
    induction ts with
    | nil => intro k _ j t ht; simp at ht
    | cons x ts ih =>
      intro k h j t ht
      simp only [idxOK, Bool.and_eq_true, Bool.or_eq_true, beq_iff_eq] at h
      cases j with
      | zero => simp at ht; subst ht; exact h.1
      | succ j => have := ih (k + 1) h.2 j t (by simpa using ht); omega
  intro j t ht
  have := go ts 0 h j t ht
  omega

def fnOK (X : Ctx) (P : Program) (f : FuncId) : Bool :=
  match P.funcs[f]? with
  | some fn => !(fn.name == "runtime.NumGoroutine") && (match fn.body with | some c => regsOK X c | none => true)
  | none => true

theorem mkC_fns {tab : Tab} (hfn : tab.fns.all (fnOK (mkC tab P) P) = true) (hcl : ∀ c ∈ tab.clones, PrimSound P c.1 (primClone (szOf tab c.2.2.1))) (hsq : ∀ c ∈ tab.seqs, PrimSound P c.1 (primSeq c.2)) (htr : ∀ c ∈ tab.trues, PrimSound P c primTrue) (hpr : ∀ c ∈ tab.prims, PrimSound P c.1 c.2) : FnsOK P (mkC tab P) where
  fn := fun f fn h => by
    have h0 := h
    simp only [mkC] at h
    split at h
    · rename_i hc
      have := List.all_eq_true.1 hfn f (List.contains_iff_mem.1 hc)
      unfold fnOK at this
      rw [h] at this
      simp only [Bool.and_eq_true, Bool.not_eq_true'] at this
      exact ⟨h, this.1, fun c hb => by have := this.2; rw [hb] at this; exact this⟩
    · cases h
  prim := fun f p h => by
    simp only [mkC] at h
    split at h
    · rename_i c h1
      injection h with h; subst h
      have h2 := List.mem_of_find?_eq_some h1
      have h3 := List.find?_some h1
      simp only [beq_iff_eq] at h3
      rw [← h3]
      exact hcl c h2
    · split at h
      · rename_i c h1
        injection h with h; subst h
        have h2 := List.mem_of_find?_eq_some h1
        have h3 := List.find?_some h1
        simp only [beq_iff_eq] at h3
        rw [← h3]
        exact hsq c h2
      · split at h
        · rename_i hm
          injection h with h; subst h
          exact htr f (List.contains_iff_mem.1 hm)
        · rw [Option.map_eq_some_iff] at h
          obtain ⟨c, h1, rfl⟩ := h
          have h2 := List.mem_of_find?_eq_some h1
          have h3 := List.find?_some h1
          simp only [beq_iff_eq] at h3
          rw [← h3]
          exact hpr c h2
end
end Go.Eng
