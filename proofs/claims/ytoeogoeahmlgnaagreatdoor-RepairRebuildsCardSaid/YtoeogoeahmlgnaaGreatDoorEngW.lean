/- A function without arguments that is run in two parts: what the first part made stands from then on. -/
import Derived.Test.YtoeogoeahmlgnaaGreatDoorEngU
set_option linter.all false
namespace Go.Eng
open Go.RowKit

def mapO {β : Type} (f : β → Option β) : List β → Option (List β)
  | [] => some []
  | c :: cs => match f c with
    | some c' => match mapO f cs with
      | some cs' => some (c' :: cs')
      | none => none
    | none => none

/-- The value as it stands, for good. -/
def ice (S : Store) : Nat → AV → Option AV
  | 0, _ => none
  | n + 1, v => match v with
    | .agg cs => (mapO (ice S n) cs).map .agg
    | .tup cs => (mapO (ice S n) cs).map .tup
    | .fn f cs => (mapO (ice S n) cs).map (.fn f)
    | .iface t x => (ice S n x).map (.iface t)
    | .sl b e off len sz => match rowsOf S sz (.sl b e off len sz) with
      | some (rows, _) => (mapO (mapO (ice S n)) rows).map (.tsl true sz)
      | none => none
    | .ptr b e sz row off => match rowOf S b e sz row with
      | some r => (mapO (ice S n) r).map fun r' => .tptr true r' off
      | none => none
    | .tsl _ sz rows => some (.tsl true sz rows)
    | .tptr _ r off => some (.tptr true r off)
    | .osl .. => none
    | .mp _ => none
    | .it _ => none
    | .junk => none
    | v => some v

variable [Known]
section
variable {P : Program} {X : Ctx} {base : Nat} {T B : Area} {I : Inj} {S : Store} {w : World}

omit [Known] in
theorem mapO_cons {β : Type} {f : β → Option β} {c : β} {cs l : List β} (h : mapO f (c :: cs) = some l) : ∃ c' cs', f c = some c' ∧ mapO f cs = some cs' ∧ l = c' :: cs' := by
  simp only [mapO] at h
  split at h
  · rename_i c' e1
    split at h
    · rename_i cs' e2
      injection h with h
      exact ⟨c', cs', e1, e2, h.symm⟩
    · cases h
  · cases h
omit [Known] in
theorem mapO_len {β : Type} {f : β → Option β} : ∀ {l l' : List β}, mapO f l = some l' → l'.length = l.length
  | [], l', h => by simp only [mapO] at h; injection h with h; subst h; rfl
  | c :: cs, l', h => by
    obtain ⟨c', cs', _, h2, rfl⟩ := mapO_cons h
    simp [mapO_len h2]

omit [Known] in
theorem mapO_list {f : AV → Option AV} {A : Area} (hf : ∀ v v' u, f v = some v' → vrep w v T B I u → vrep w v' A A noInj u) : ∀ {cs cs' : List AV} {us : List Value}, mapO f cs = some cs' → listRep w cs T B I us → listRep w cs' A A noInj us
  | [], cs', us, h, hu => by
    simp only [mapO] at h; injection h with h; subst h
    simp only [listRep] at hu ⊢; exact hu
  | c :: cs, l', us, h, hu => by
    obtain ⟨c', cs', h1, h2, rfl⟩ := mapO_cons h
    simp only [listRep] at hu ⊢
    obtain ⟨u, us', k1, k2, k3⟩ := hu
    exact ⟨u, us', k1, hf _ _ _ h1 k2, mapO_list hf h2 k3⟩
omit [Known] in
theorem mapO_cells {f : AV → Option AV} {A : Area} (hf : ∀ v v' u, f v = some v' → vrep w v T B I u → vrep w v' A A noInj u) : ∀ {cs cs' : List AV} {g off : Nat}, mapO f cs = some cs' → cellsRep w cs T B I g off → cellsRep w cs' A A noInj g off
  | [], cs', _, _, h, hu => by
    simp only [mapO] at h; injection h with h; subst h
    simp only [cellsRep]
  | c :: cs, l', g, off, h, hu => by
    obtain ⟨c', cs', h1, h2, rfl⟩ := mapO_cons h
    simp only [cellsRep] at hu ⊢
    obtain ⟨⟨u, k1, k2, k3⟩, k4⟩ := hu
    exact ⟨⟨u, k1, k2, hf _ _ _ h1 k3⟩, mapO_cells hf h2 k4⟩
omit [Known] in
theorem mapO_rows {f : AV → Option AV} {A : Area} (hf : ∀ v v' u, f v = some v' → vrep w v T B I u → vrep w v' A A noInj u) : ∀ {rs rs' : List (List AV)} {g off sz : Nat}, mapO (mapO f) rs = some rs' → rowsRep w rs T B I g off sz → rowsRep w rs' A A noInj g off sz
  | [], cs', _, _, _, h, hu => by
    simp only [mapO] at h; injection h with h; subst h
    simp only [rowsRep]
  | c :: cs, l', g, off, sz, h, hu => by
    obtain ⟨c', cs', h1, h2, rfl⟩ := mapO_cons h
    simp only [rowsRep] at hu ⊢
    obtain ⟨k1, k2, k3⟩ := hu
    exact ⟨by rw [mapO_len h1, k1], mapO_cells hf h1 k2, mapO_rows hf h2 k3⟩

theorem ice_sound (h : Rel base T B I (sig S) w) : ∀ (n : Nat) (v v' : AV) (u : Value), ice S n v = some v' → vrep w v T B I u → vrep w v' (fun g => g < w.heap.size) (fun g => g < w.heap.size) noInj u
  | 0, v, v', u, hs, _ => by simp [ice] at hs
  | n + 1, v, v', u, hs, hu => by
    have ih := ice_sound h n
    have up : Mono w T T noInj w (fun g => g < w.heap.size) (fun g => g < w.heap.size) noInj := ⟨fun g hg => h.Blt g (h.TB g hg), fun g hg => h.Blt g (h.TB g hg), fun _ _ _ h => h, fun _ _ => rfl⟩
    cases v with
    | agg cs =>
      simp only [ice, Option.map_eq_some_iff] at hs
      obtain ⟨l, h1, rfl⟩ := hs
      simp only [vrep] at hu ⊢
      obtain ⟨us, k1, k2⟩ := hu
      exact ⟨us, k1, mapO_list ih h1 k2⟩
    | tup cs =>
      simp only [ice, Option.map_eq_some_iff] at hs
      obtain ⟨l, h1, rfl⟩ := hs
      simp only [vrep] at hu ⊢
      obtain ⟨us, k1, k2⟩ := hu
      exact ⟨us, k1, mapO_list ih h1 k2⟩
    | fn f cs =>
      simp only [ice, Option.map_eq_some_iff] at hs
      obtain ⟨l, h1, rfl⟩ := hs
      simp only [vrep] at hu ⊢
      obtain ⟨us, k1, k2⟩ := hu
      exact ⟨us, k1, mapO_list ih h1 k2⟩
    | iface t x =>
      simp only [ice, Option.map_eq_some_iff] at hs
      obtain ⟨l, h1, rfl⟩ := hs
      simp only [vrep] at hu ⊢
      obtain ⟨us, k1, k2⟩ := hu
      exact ⟨us, k1, ih _ _ _ h1 k2⟩
    | sl b e off len sz =>
      simp only [ice] at hs
      split at hs
      · rename_i rows pr e1
        simp only [Option.map_eq_some_iff] at hs
        obtain ⟨l, h1, rfl⟩ := hs
        obtain ⟨ao, cap, rfl, k1, k2, k3, k4⟩ := rowsOf_rep h Ext.refl e1 hu
        simp only [vrep]
        have hl := mapO_len h1
        refine ⟨ao, cap, by rw [hl], by rw [hl]; exact k2, k3, k1, fun hne => ?_⟩
        obtain ⟨g, o, rfl, m1, m2⟩ := k4 (fun e => hne (by rw [e] at hl; exact List.eq_nil_of_length_eq_zero hl))
        refine ⟨g, o, rfl, ?_, mapO_rows ih h1 (noInj_mono h.TB m1)⟩
        simp only [pick, if_true]
        rcases m2 with m2 | ⟨_, _, _, m2, _⟩
        · exact h.Blt g m2
        · exact h.lt m2
      · cases hs
    | ptr b e sz row off =>
      simp only [ice] at hs
      split at hs
      · rename_i r e1
        simp only [Option.map_eq_some_iff] at hs
        obtain ⟨l, h1, rfl⟩ := hs
        simp only [vrep] at hu ⊢
        obtain ⟨g, gs, hi, rfl⟩ := hu
        obtain ⟨c1, c2⟩ := rowOf_rep h Ext.refl e1 hi
        refine ⟨g, row * sz, rfl, by simp only [pick, if_true]; exact h.lt hi, ?_⟩
        have : pick true (fun g => g < w.heap.size) (fun g => g < w.heap.size) = fun g => g < w.heap.size := by funext g; simp [pick]
        rw [this]
        exact mapO_cells ih h1 c1
      · cases hs
    | tsl st sz rows =>
      simp only [ice] at hs; injection hs with hs; subst hs
      simp only [vrep] at hu ⊢
      obtain ⟨ao, cap, rfl, k1, k2, k3, k4⟩ := hu
      refine ⟨ao, cap, rfl, k1, k2, k3, fun hne => ?_⟩
      obtain ⟨g, o, rfl, m1, m2⟩ := k4 hne
      exact ⟨g, o, rfl, by simp only [pick, if_true]; exact h.Blt g (pick_sub h.TB g m1), rowsRep_mono _ up (fun _ h => h) (fun _ => rfl) m2⟩
    | tptr st r off =>
      simp only [ice] at hs; injection hs with hs; subst hs
      simp only [vrep] at hu ⊢
      obtain ⟨g, o, rfl, m1, m2⟩ := hu
      refine ⟨g, o, rfl, by simp only [pick, if_true]; exact h.Blt g (pick_sub h.TB g m1), ?_⟩
      exact cellsRep_mono _ ⟨fun g hg => h.Blt g (h.TB g hg), fun g hg => by simp only [pick, if_true]; exact h.Blt g (pick_sub h.TB g hg), fun _ _ _ h => h, fun _ _ => rfl⟩ (sub_pick h.TB) (fun _ => rfl) m2
    | osl sz rows => simp [ice] at hs
    | mp b => simp [ice] at hs
    | it b => simp [ice] at hs
    | junk => simp [ice] at hs
    | int k a => simp only [ice] at hs; injection hs with hs; subst hs; simpa only [vrep] using hu
    | bool b => simp only [ice] at hs; injection hs with hs; subst hs; simpa only [vrep] using hu
    | str s => simp only [ice] at hs; injection hs with hs; subst hs; simpa only [vrep] using hu
    | flat v => simp only [ice] at hs; injection hs with hs; subst hs; simpa only [vrep] using hu
    | esl => simp only [ice] at hs; injection hs with hs; subst hs; simpa only [vrep] using hu

def iceF (S : Store) (m : Nat) (fr : List AV) : List AV := fr.map fun v => (ice S m v).getD .junk

theorem iceF_rep (h : Rel base T B I (sig S) w) (m : Nat) : ∀ {fr : List AV} {us : List Value}, listRep w fr T B I us → listRep w (iceF S m fr) (fun g => g < w.heap.size) (fun g => g < w.heap.size) noInj us
  | [], us, hu => by simp only [iceF, List.map_nil, listRep] at hu ⊢; exact hu
  | v :: fr, us, hu => by
    simp only [listRep] at hu
    obtain ⟨u, us', k1, k2, k3⟩ := hu
    have := iceF_rep h m k3
    simp only [iceF, List.map_cons, listRep] at this ⊢
    refine ⟨u, us', k1, ?_, this⟩
    cases e : ice S m v with
    | none => simp only [Option.getD_none, vrep]
    | some v' => exact ice_sound h m v v' u e k2

/-- The first k statements; then the rest, with what they made frozen. -/
def execF (X : Ctx) (call : CallFn) (n m : Nat) : Nat → Code → St → Option (Ex × St)
  | 0, c, st => execA X call n c ⟨iceF st.S m st.fr, []⟩
  | k + 1, .seq a b, st => match execA X call n a st with
    | some (.normal, st') => execF X call n m k b st'
    | _ => none
  | _, _, _ => none

theorem execF_sound {call : CallFn} (hX : CtxOK P X) (hO : CallOK P call) (hC : CallSound P call) {n m : Nat} : ∀ (k : Nat) (c : Code), regsOK X c = true → ∀ {st st' : St} {e : Ex}, execF X call n m k c st = some (e, st') → ∀ {base : Nat} {T B : Area} {I : Inj} {w : World} {a : Act} {Q : Exit → Act → World → Prop}, Rel base T B I (sig st.S) w → listRep w st.fr T B I a.tmps.toList →
    (∀ a' w' base' T' B' I', Below base w w' → Rel base' T' B' I' (sig st'.S) w' → listRep w' st'.fr T' B' I' a'.tmps.toList → a'.defers = a.defers → Q e.toExit a' w') → c.wp P Q a w
  | 0, c, hr, st, st', e, hs, base, T, B, I, w, a, Q, h, hfr, hK => by
    simp only [execF] at hs
    refine exec_sound hX hO hC c hr hs (rel_start (fun _ h => h) (fun g o k => (h.known g o k).2)) (iceF_rep h m hfr) fun a' w' T' B' I' k1 k2 k3 k4 => ?_
    exact hK a' w' _ T' B' I' (k1.below.mono h.base_le) k2 k3 k4
  | k + 1, .seq x y, hr, st, st', e, hs, base, T, B, I, w, a, Q, h, hfr, hK => by
    simp only [regsOK, Bool.and_eq_true] at hr
    simp only [execF] at hs
    split at hs
    · rename_i st1 e1
      refine wp_seq (exec_sound hX hO hC x hr.1 e1 h hfr fun a' w' T' B' I' h1 h2 h3 h4 => ?_)
      refine execF_sound hX hO hC k y hr.2 hs h2 h3 fun a'' w'' base'' T'' B'' I'' k1 k2 k3 k4 => ?_
      exact hK a'' w'' base'' T'' B'' I'' (h1.below.trans k1) k2 k3 (k4.trans h4)
    · cases hs
  | k + 1, .skip, _, _, _, _, hs, _, _, _, _, _, _, _, _, _, _ => by simp [execF] at hs
  | k + 1, .exit _, _, _, _, _, hs, _, _, _, _, _, _, _, _, _, _ => by simp [execF] at hs
  | k + 1, .ret, _, _, _, _, hs, _, _, _, _, _, _, _, _, _, _ => by simp [execF] at hs
  | k + 1, .region .., _, _, _, _, hs, _, _, _, _, _, _, _, _, _, _ => by simp [execF] at hs
  | k + 1, .cond .., _, _, _, _, hs, _, _, _, _, _, _, _, _, _, _ => by simp [execF] at hs
  | k + 1, .block .., _, _, _, _, hs, _, _, _, _, _, _, _, _, _, _ => by simp [execF] at hs
  | k + 1, .loop _, _, _, _, _, hs, _, _, _, _, _, _, _, _, _, _ => by simp [execF] at hs
  | k + 1, .rangeFunc .., _, _, _, _, hs, _, _, _, _, _, _, _, _, _, _ => by simp [execF] at hs
  | k + 1, .scope _, _, _, _, _, hs, _, _, _, _, _, _, _, _, _, _ => by simp [execF] at hs
  | k + 1, .label _, _, _, _, _, hs, _, _, _, _, _, _, _, _, _, _ => by simp [execF] at hs
  | k + 1, .goto _, _, _, _, _, hs, _, _, _, _, _, _, _, _, _, _ => by simp [execF] at hs
  | k + 1, .refuse _, _, _, _, _, hs, _, _, _, _, _, _, _, _, _, _ => by simp [execF] at hs

/-- Does it return true? -/
def trueF (X : Ctx) (fn : Func) (n m k : Nat) : Bool :=
  match fn.body with
  | some c => match execF X (callN X n) n m k c ⟨List.replicate fn.ntmps (.flat undef), []⟩ with
    | some (.normal, st) | some (.ret, st) => match resultsA X fn st with
      | some (.bool true) => true
      | _ => false
    | _ => false
  | none => false

theorem primTrueF_sound {X : Ctx} (hX : CtxOK P X) (hF : FnsOK P X) {f : FuncId} {fn : Func} {n m k : Nat} (hf : X.fn f = some fn) (h : trueF X fn n m k = true) : PrimSound P f primTrue := by
  obtain ⟨h1, hnm, hr⟩ := hF.fn f fn hf
  unfold trueF at h
  split at h
  · rename_i c hb
    refine ⟨⟨fn, h1, hnm, by rw [hb]; rfl⟩, ?_⟩
    intro args S r S' hp base T B I w vs hrel hargs
    unfold primTrue at hp
    split at hp
    · injection hp with hp; injection hp with q1 q2; subst q1 q2
      simp only [listRep] at hargs; subst hargs
      have fr0 : listRep w (List.replicate fn.ntmps (.flat undef)) (fun g => g < w.heap.size) (fun g => g < w.heap.size) noInj ((#[] : Array Value) ++ Array.replicate (fn.ntmps - (#[] : Array Value).size) undef).toList := by
        simp only [Array.toList_append, Array.toList_replicate, List.size_toArray, List.length_nil, Nat.sub_zero, List.nil_append]
        have : ∀ k, listRep w (List.replicate k (.flat undef)) (fun g => g < w.heap.size) (fun g => g < w.heap.size) noInj (List.replicate k undef) := fun k => by
          induction k with
          | zero => simp [listRep]
          | succ k ih => simp only [List.replicate_succ, listRep]; exact ⟨_, _, rfl, by simp only [vrep], ih⟩
        exact this _
      have fin : ∀ {e : Ex} {st : St}, execF X (callN X n) n m k c ⟨List.replicate fn.ntmps (.flat undef), []⟩ = some (e, st) → (e = .normal ∨ e = .ret) → resultsA X fn st = some (.bool true) → Calls P f #[] w fun e w' => e = .returned (.bool true) ∧ Below w.heap.size w w' := by
        intro e st hex he hres
        refine calls_of_wp h1 hb ?_
        refine execF_sound hX (callN_ok hF n) (callN_sound hX hF n) k c (hr c hb) hex (rel_start (fun _ h => h) (fun g o k => (hrel.known g o k).2)) fr0 fun a' w' base' T' B' I' k1 k2 k3 k4 => ?_
        obtain ⟨u, m1, m2⟩ := resultsA_rep hX k2 k3 hres
        simp only [vrep] at m2
        subst m2
        rcases he with rfl | rfl
        · exact ⟨k4, _, m1, rfl, k1⟩
        · exact ⟨k4, _, m1, rfl, k1⟩
      have this : Calls P f #[] w fun e w' => e = .returned (.bool true) ∧ Below w.heap.size w w' := by
        split at h
        · rename_i st e1
          split at h
          · rename_i e2; exact fin e1 (.inl rfl) e2
          · cases h
        · rename_i st e1
          split at h
          · rename_i e2; exact fin e1 (.inr rfl) e2
          · cases h
        · cases h
      refine this.mono fun e w' ⟨he, hb⟩ => ⟨_, T, B, I, he, Step.quiet hrel hb (fun _ h => h) (fun _ h => h) (fun _ h => .inl h) (fun _ h => .inl h), hrel.quiet hb (fun _ h => h) (fun _ h => h) hrel.TB (fun _ h => .inl h), by simp only [vrep]⟩
    · cases hp
  · cases h
end
end Go.Eng
