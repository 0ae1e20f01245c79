/- From a run of the small machine to what a statement asks. -/
import Derived.Test.YtoeogoeahmlgnaaGreatDoorEngR
set_option linter.all false
namespace Go.Eng
open Go.RowKit Go.ChangeShapes Go.WideShapes

section
variable {H : Type} {enc : TypeId × Value → H} {P : Program} {X : Ctx}

theorem export_bool {S : Store} {r : AV} {b : Bool} (h : exportA S r = some (.bool b)) : r = .bool b := by
  cases r with
  | bool c => simpa [exportA, idsOK, ownIds, expTop, AV.stab] using h
  | tup cs =>
    simp only [exportA] at h
    split at h
    · split at h <;> simp at h
    · cases h
  | agg cs =>
    simp only [exportA, expTop] at h
    split at h
    · split at h <;> simp at h
    · cases h
  | sl b e off len sz =>
    simp only [exportA, expTop, expCell] at h
    split at h
    · split at h
      · split at h
        · split at h <;> simp at h
        · cases h
      · split at h
        · split at h <;> simp at h
        · cases h
    · cases h
  | _ =>
    simp only [exportA, expTop] at h
    split at h
    · split at h <;> simp at h
    · cases h

theorem calls_of_EvV [Known] (hX : CtxOK P X) (hF : FnsOK P X) {W : World} (hk : ∀ g o, Known.blk g = some o → W.heap[g]? = some o) {f : FuncId} {as : List AV} {vs : Array Value} (hrep : listRep W as (Whl W) (Whl W) noInj vs.toList) (h : EvV X f as (· = .bool true)) :
    Calls P f vs W fun e w' => e = .returned (.bool true) ∧ Below W.heap.size W w' := by
  obtain ⟨n, r, h1, rfl⟩ := h
  unfold callV at h1
  split at h1
  · rename_i r' S e1
    have e2 := export_bool h1
    subst e2
    have := callN_sound hX hF n f as [] _ S e1 W.heap.size (Whl W) (Whl W) noInj W vs.toList (rel_start (fun _ h => h) hk) hrep
    refine this.mono fun e w' ⟨u, T', B', I', k1, k2, _, k4⟩ => ?_
    simp only [vrep] at k4
    subst k4
    exact ⟨k1, k2.below⟩
  · cases h1

theorem trodAll_stays {W W' : World} (hl : laidOutB P = true) (hb : Below W.heap.size W W') {sp' : Nat → Bool} : ∀ {ts : List TypeId} {vs : List Value} {ds : List (DataW H)} {ps : List MemPlace}, (∀ t ∈ ts, P.readableRec t = true ∧ t < P.types.size) →
    DataW.TrodAll enc P W 0 (fun _ => true) true ts vs ds ps → (∀ p ∈ ps, p.block < W.heap.size) → (∀ p ∈ ps, sp' p.block = true) → DataW.TrodAll enc P W' 0 sp' true ts vs ds ps
  | [], _, _, _, _, h, _, _ => by
    obtain ⟨rfl, rfl, rfl⟩ := trodAll_nil h
    exact rfl
  | t :: ts, _, _, _, ht, h, hlt, hsp => by
    obtain ⟨v, vs, d, ds, p, q, rfl, rfl, rfl, h1, h2⟩ := trodAll_cons h
    obtain ⟨k1, k2⟩ := ht t (by simp)
    exact ⟨p, q, WideElems.Trod_stays hl k1 k2 h1 (fun x hx => hb.same (hlt x (by simp [hx]))) (fun x hx => hsp x (by simp [hx])),
      trodAll_stays hl hb (fun t h => ht t (by simp [h])) h2 (fun x hx => hlt x (by simp [hx])) (fun x hx => hsp x (by simp [hx])), rfl⟩

theorem law_contractW (hl : laidOutB P = true) {b : DataW H → Nat} {bA : List (DataW H) → Nat} (hB : BulkOK b bA) {f : FuncId} {fn : Func} {s : ChangeSpec} {k : Nat} {τs : List (Bool × List Shp)} {tb : TypeId} {apart fresh handsOn : Bool}
    (hts : fn.params.toList.all (fun t => P.readableRec t && decide (t < P.types.size)) = true) (hτ : fn.params.toList.map (argShp P k) = τs.map some) (hres : fn.resultTypes = #[tb]) (htb : P.underlying tb = some .bool) (hvars : s.vars = [])
    (hs : ∀ ds : List (DataW H), ds.length = fn.params.toList.length → s.fn H ds = { results := [.lit (.bool true)], args := ds })
    {Bd : Nat → Prop} (law : ∀ as m, okArgs τs as → avBL as ≤ m → Bd m → EvV X f as (· = .bool true))
    (W : World) (hX : @CtxOK ⟨fun g => W.heap[g]?⟩ P X) (hF : @FnsOK ⟨fun g => W.heap[g]?⟩ P X) (base : Nat) (args : Array Value) (ds gs : List (DataW H)) (before : List MemPlace)
    (hval : ∀ (j : Nat) t v, fn.params[j]? = some t → args[j]? = some v → Value.okWide P W .any base t v)
    (hW : DataW.Whole enc P fn.params.toList s.vars apart W args.toList ds gs before) (hbd : Bd (bA ds)) :
    Calls P f args W fun e W' => ∃ v, e = .returned v ∧ s.post enc P fn apart fresh handsOn false W args v W' := by
  have hW' := hW
  have hlt : ∀ p ∈ before, p.block < W.heap.size := fun p hp => hW.lt p hp
  obtain ⟨p, q, hA, hV, hpq, hfz, hnd⟩ := hW
  rw [hvars] at hV
  obtain ⟨rfl, rfl⟩ := trodVars_none hV
  rw [List.append_nil] at hpq
  subst hpq
  obtain ⟨as, k1, k2, k3⟩ := args_open hB hτ (fun j t v h1 h2 => hval j t v (by simpa using h1) (by simpa using h2)) hA
  have hdl : ds.length = fn.params.toList.length := by
    have go : ∀ {ts : List TypeId} {vs : List Value} {ds : List (DataW H)} {ps : List MemPlace}, DataW.TrodAll enc P W 0 (fun _ => true) true ts vs ds ps → ds.length = ts.length := by
      intro ts
      induction ts with
      | nil => intro vs ds ps h; obtain ⟨_, rfl, _⟩ := trodAll_nil h; rfl
      | cons t ts ih =>
        intro vs ds ps h
        obtain ⟨v, vs, d, ds, p, q, rfl, rfl, rfl, h1, h2⟩ := trodAll_cons h
        simp [ih h2]
    exact go hA
  refine (@calls_of_EvV P X ⟨fun g => W.heap[g]?⟩ hX hF W (fun _ _ h => h) _ _ _ k2 (law as _ k1 k3 hbd)).mono fun e W' ⟨he, hb⟩ => ⟨_, he, ds, [], before, [], before, [], hW', ?_, ?_, ?_, hb.frame _, fun h => by cases h⟩
  · rw [List.append_nil, hs ds hdl, hres]
    exact trodAll_cons_mk (shut_bool htb _) trodAll_mk0
  · rw [List.append_nil, hs ds hdl]
    refine trodAll_stays hl hb (fun t ht => ?_) hA hlt (fun x hx => by simpa using hlt x hx)
    have := List.all_eq_true.1 hts t ht
    simpa using this
  · rw [hvars, List.append_nil, hs ds hdl]; rfl

theorem law_contract (hX : ∀ k : Known, CtxOK P X) (hF : ∀ k : Known, FnsOK P X) (hl : laidOutB P = true) {b : DataW H → Nat} {bA : List (DataW H) → Nat} (hB : BulkOK b bA) {f : FuncId} {fn : Func} {s : ChangeSpec} {k : Nat} {τs : List (Bool × List Shp)} {tb : TypeId} {apart fresh handsOn : Bool}
    (hts : fn.params.toList.all (fun t => P.readableRec t && decide (t < P.types.size)) = true) (hτ : fn.params.toList.map (argShp P k) = τs.map some) (hres : fn.resultTypes = #[tb]) (htb : P.underlying tb = some .bool) (hvars : s.vars = [])
    (hs : ∀ ds : List (DataW H), ds.length = fn.params.toList.length → s.fn H ds = { results := [.lit (.bool true)], args := ds })
    {Bd : Nat → Prop} (law : ∀ as m, okArgs τs as → avBL as ≤ m → Bd m → EvV X f as (· = .bool true))
    (W : World) (base : Nat) (args : Array Value) (ds gs : List (DataW H)) (before : List MemPlace)
    (hval : ∀ (j : Nat) t v, fn.params[j]? = some t → args[j]? = some v → Value.okWide P W .any base t v)
    (hW : DataW.Whole enc P fn.params.toList s.vars apart W args.toList ds gs before) (hbd : Bd (bA ds)) :
    Calls P f args W fun e W' => ∃ v, e = .returned v ∧ s.post enc P fn apart fresh handsOn false W args v W' :=
  law_contractW hl hB hts hτ hres htb hvars hs law W (hX _) (hF _) base args ds gs before hval hW hbd
end
end Go.Eng
