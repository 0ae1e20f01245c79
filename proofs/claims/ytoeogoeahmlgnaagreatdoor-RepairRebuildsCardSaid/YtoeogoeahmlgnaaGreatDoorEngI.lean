/- An operation that writes, as a whole. -/
import Derived.Test.YtoeogoeahmlgnaaGreatDoorEngH
set_option linter.all false
namespace Go.Eng
open Go.RowKit
variable [Known]

section
variable {P : Program} {X : Ctx} (hX : CtxOK P X) {base : Nat} {T B : Area} {I : Inj} {S : Store} {w : World}

def sig (S : Store) : Sig := fun b => S[b]?

omit [Known] in
theorem sig_set {b : Nat} {blk blk' : Blk} (h : S[b]? = some blk) : sig (S.set b blk') b = some blk' ∧ ∀ x, x ≠ b → sig (S.set b blk') x = sig S x := by
  have hb := (List.getElem?_eq_some_iff.1 h).1
  refine ⟨by simp [sig, hb], fun x hx => ?_⟩
  simp only [sig]
  rw [List.getElem?_set_ne (fun e => hx e.symm)]

omit [Known] in
theorem sig_push {blk : Blk} : sig (S ++ [blk]) S.length = some blk ∧ ∀ x, x ≠ S.length → sig (S ++ [blk]) x = sig S x := by
  refine ⟨by simp [sig], fun x hx => ?_⟩
  simp only [sig, List.getElem?_append]
  split
  · rfl
  · rename_i h
    rw [List.getElem?_eq_none (by simp; omega), List.getElem?_eq_none (by omega)]

theorem Rel.fresh (h : Rel base T B I (sig S) w) {b : Nat} (hb : S.length ≤ b) : ∀ e, I b e = none := by
  intro e
  cases hi : I b e with
  | none => rfl
  | some p =>
    have q1 := h.blk b e p.1 p.2 hi
    simp [sig, List.getElem?_eq_none hb, BlkRep] at q1

/-- A store's versions. -/
def Cov (S : Store) (b e : Nat) : Prop := ∃ blk, S[b]? = some blk ∧ e ≤ blk.len

theorem Rel.cov (h : Rel base T B I (sig S) w) {b e : Nat} {p : Nat × Nat} (hi : I b e = some p) : Cov S b e := by
  have q1 := h.blk b e p.1 p.2 hi
  unfold BlkRep at q1
  split at q1
  · rename_i hs; exact ⟨_, hs, q1.1⟩
  · rename_i hs; exact ⟨_, hs, by rw [q1.1]; exact Nat.zero_le _⟩
  · rename_i hs; exact ⟨_, hs, by rw [q1.1]; exact Nat.zero_le _⟩
  · exact q1.elim

/-! ### Maps -/
def putM (w : World) (g : Nat) (o : Obj) : World := { w with heap := w.heap.setIfInBounds g o }
omit [Known] in
theorem putM_other {g g' : Nat} {o : Obj} (h : g' ≠ g) : (putM w g o).heap[g']? = w.heap[g']? := by
  simp only [putM, Array.getElem?_setIfInBounds]
  rw [if_neg (fun e => h e.symm)]
omit [Known] in
theorem putM_same {g : Nat} {o : Obj} (h : g < w.heap.size) : (putM w g o).heap[g]? = some o := by
  simp [putM, h]
omit [Known] in
theorem putM_size {g : Nat} {o : Obj} : (putM w g o).heap.size = w.heap.size := by simp [putM]
omit [Known] in
theorem run_setObj_m {g clock : Nat} {ms : Array MapEntry} (o : Obj) (h : w.heap[g]? = some (.map ms clock)) : (setObj g o).run P w = .ok () (putM w g o) := by
  simp [setObj, Sem.run, h, putM]

theorem Rel.putMap {S' : Sig} (h : Rel base T B I (sig S) w) {b g gs clock : Nat} {es es' : List (AV × AV)} {ms : Array MapEntry} (hi : I b 0 = some (g, gs)) (hS : sig S b = some (.map es)) (hS' : S' b = some (.map es')) (hS2 : ∀ x, x ≠ b → S' x = sig S x) (hent : entRep w T es' ms.toList) (hck : clock = ms.size ∧ ∀ (i : Nat) (m : MapEntry), ms[i]? = some m → m.born = i) :
    Rel base T B I S' (putM w g (.map ms clock)) ∧ Step base T B I w T B I (putM w g (.map ms clock)) := by
  obtain ⟨o1, o2, o3⟩ := h.own _ _ _ _ hi
  have hm : Mono w T B I (putM w g (.map ms clock)) T B I := ⟨fun _ h => h, fun _ h => h, fun _ _ _ h => h, fun g' hg' => putM_other (fun e => o2 (e ▸ hg'))⟩
  refine ⟨⟨by rw [putM_size]; exact h.base_le, h.TB, fun g' hg' => by rw [putM_size]; exact h.Blt g' hg', fun b' e' g' gs' hi' => by rw [putM_size]; exact h.own _ _ _ _ hi', h.excl, fun b' e' g' gs' hi' => ?_, fun g' o k => ⟨(h.known g' o k).1, (putM_other (fun e : g' = g => o2 (e ▸ (h.known g' o k).1))).trans (h.known g' o k).2⟩⟩, hm,
    ⟨rfl, rfl, rfl, by rw [putM_size]; exact Nat.le_refl _, fun k hk => putM_other (by omega)⟩, fun _ h => .inl h, fun _ h => .inl h⟩
  by_cases hb : b' = b
  · subst hb
    have hblk := h.blk _ _ _ _ hi'
    rw [hS] at hblk
    have he : e' = 0 := hblk.1
    subst he
    rw [hi] at hi'
    injection hi' with hi'; injection hi' with q1 q2; subst q1 q2
    rw [hS']
    exact ⟨rfl, ms, clock, putM_same o3, entRep_mono hm h.TB hent, hck⟩
  · have hg : g' ≠ g := fun hg => hb (h.excl _ _ _ _ _ _ _ (hg ▸ hi') hi)
    rw [hS2 _ hb]
    exact (h.blk _ _ _ _ hi').mono hm h.TB (putM_other hg)

theorem Rel.putIter {S' : Sig} (h : Rel base T B I (sig S) w) {b g gs gm gsm mb n : Nat} {dn : Bool} (hi : I b 0 = some (g, gs)) (hS : sig S b = some (.iter mb n dn)) (hS' : S' b = some (.iter mb n true)) (hS2 : ∀ x, x ≠ b → S' x = sig S x) (hi2 : I mb 0 = some (gm, gsm)) :
    Rel base T B I S' (putM w g (.mapIter (some gm) n #[0] n)) ∧ Step base T B I w T B I (putM w g (.mapIter (some gm) n #[0] n)) := by
  obtain ⟨o1, o2, o3⟩ := h.own _ _ _ _ hi
  have hm : Mono w T B I (putM w g (.mapIter (some gm) n #[0] n)) T B I := ⟨fun _ h => h, fun _ h => h, fun _ _ _ h => h, fun g' hg' => putM_other (fun e => o2 (e ▸ hg'))⟩
  refine ⟨⟨by rw [putM_size]; exact h.base_le, h.TB, fun g' hg' => by rw [putM_size]; exact h.Blt g' hg', fun b' e' g' gs' hi' => by rw [putM_size]; exact h.own _ _ _ _ hi', h.excl, fun b' e' g' gs' hi' => ?_, fun g' o k => ⟨(h.known g' o k).1, (putM_other (fun e : g' = g => o2 (e ▸ (h.known g' o k).1))).trans (h.known g' o k).2⟩⟩, hm,
    ⟨rfl, rfl, rfl, by rw [putM_size]; exact Nat.le_refl _, fun k hk => putM_other (by omega)⟩, fun _ h => .inl h, fun _ h => .inl h⟩
  by_cases hb : b' = b
  · subst hb
    have hblk := h.blk _ _ _ _ hi'
    rw [hS] at hblk
    have he : e' = 0 := hblk.1
    subst he
    rw [hi] at hi'
    injection hi' with hi'; injection hi' with q1 q2; subst q1 q2
    rw [hS']
    exact ⟨rfl, gm, gsm, hi2, putM_same o3⟩
  · have hg : g' ≠ g := fun hg => hb (h.excl _ _ _ _ _ _ _ (hg ▸ hi') hi)
    rw [hS2 _ hb]
    exact (h.blk _ _ _ _ hi').mono hm h.TB (putM_other hg)

include hX in
theorem eop_sound {fr : List AV} {a : Act} {o : Oper} {v : AV} {S2 : Store} (h : Rel base T B I (sig S) w) (hfr : ∀ x, vrep w (evalA fr x) T B I (a.eval x)) (hq : eopA X S fr o = some (v, S2)) :
    EOut P base T B I (sig S2) w v (execOp a.eval o) := by
  unfold eopA at hq
  split at hq
  · rename_i t p x ho
    split at hq
    · rename_i i b e sz row off e1 e2
      split at hq
      · rename_i rows sz' wep pr e3
        dsimp only at hq
        split at hq
        · rename_i hc
          obtain ⟨c1, c2, c3, c4, c5, c6, c7⟩ := hc
          subst c1
          injection hq with hq; injection hq with q1 q2; subst q1 q2
          have hp := hfr p
          rw [e2] at hp
          obtain ⟨w', s1, s2, s3⟩ := store_sound hX (S' := sig (S.set b _)) h e1 hp (hfr x) e3 c2 c3 c4 c5 c6 c7 (sig_set e3).1 (sig_set e3).2
          exact ⟨T, B, I, w', undef, .skip, by simp [execOp, ho, s1], .inr ⟨rfl, rfl⟩, s2, s3, by simp only [vrep]⟩
        · cases hq
      · cases hq
    · cases hq
  · rename_i t m k x ho
    split at hq
    · rename_i kt _ b e1 e2
      obtain ⟨_, d, _, _, k2, _, _, _, _, _, k8, r1, _⟩ := ty_run (hX.ty _ _ e1)
      simp only [descOK] at k8
      subst k8
      split at hq
      · rename_i es ki e3 e4
        split at hq
        · rename_i hc
          obtain ⟨hkey, hst, hfd⟩ := hc
          injection hq with hq; injection hq with q1 q2; subst q1 q2
          have hx := hfr m
          rw [e2] at hx
          simp only [vrep] at hx
          obtain ⟨g, gs, hi, hu⟩ := hx
          have hb := h.blk _ _ _ _ hi
          rw [show sig S b = S[b]? from rfl, e3] at hb
          obtain ⟨_, ms, clock, hm, hent, hck, hbn⟩ := hb
          have hk := keyA_rep hX e4 hkey (hfr k)
          have hkst : vrep w (evalA fr k) T T noInj (a.eval k) := hk.stands
          have hxst := stab_rep h.TB _ hst (hfr x)
          have hsame := hk.same
          obtain ⟨r, hr⟩ := Option.isSome_iff_exists.1 hfd
          have hset := sig_set (S := S) (blk' := .map (updA (evalA fr k) (evalA fr x) es)) e3
          have fin : ∀ (ms' : Array MapEntry) (clock' : Nat), (Instr.mapUpdate t (a.eval m) (a.eval k) (a.eval x)).run P w = .ok () (putM w g (.map ms' clock')) → entRep w T (updA (evalA fr k) (evalA fr x) es) ms'.toList → (clock' = ms'.size ∧ ∀ (i : Nat) (m : MapEntry), ms'[i]? = some m → m.born = i) →
              EOut P base T B I (sig (S.set b (.map (updA (evalA fr k) (evalA fr x) es)))) w (.flat undef) (execOp a.eval o) := fun ms' clock' hrun hent' hck' => by
            obtain ⟨s1, s2⟩ := h.putMap (S' := sig (S.set b (.map (updA (evalA fr k) (evalA fr x) es)))) (clock := clock') hi e3 hset.1 hset.2 hent' hck'
            exact ⟨T, B, I, _, undef, .skip, by simp [execOp, ho, hrun], .inr ⟨rfl, rfl⟩, s2, s1, by simp only [vrep]⟩
          rcases findKey_run hX hk hr hent with ⟨q1, q2⟩ | ⟨v', n, me, q1, q2, q3, q4, q5, q6⟩
          · subst q1
            refine fin (ms.push { key := a.eval k, val := a.eval x, born := clock }) (clock + 1) ?_ ?_ ⟨by rw [hck]; simp, fun i m hm2 => by
              rw [Array.getElem?_push] at hm2
              split at hm2
              · rename_i e; injection hm2 with hm2; subst hm2; rw [e]; exact hck
              · exact hbn i m hm2⟩
            · simp only [Instr.mapUpdate, Sem.run_bind, r1, Result.andThen_ok, hu, run_getObj_m hm, Sem.run_pure, checkKey_run hX hk, q2, run_setObj_m _ hm]
            · rw [findA_none hr, Array.toList_push]
              exact entRep_snoc hkst hxst hent
          · refine fin (ms.modify n fun e => { e with key := a.eval k, val := a.eval x }) clock ?_ ?_ ⟨by rw [hck]; simp, fun i m hm2 => by
              rw [Array.getElem?_modify] at hm2
              split at hm2
              · rw [Option.map_eq_some_iff] at hm2
                obtain ⟨m0, hm0, rfl⟩ := hm2
                exact hbn i m0 hm0
              · exact hbn i m hm2⟩
            · have hkk : ((ms[n]?).map (·.key)).getD (a.eval k) = a.eval k := by
                rw [← Array.getElem?_toList, q3]; simp [q5]
              simp only [Instr.mapUpdate, Sem.run_bind, r1, Result.andThen_ok, hu, run_getObj_m hm, Sem.run_pure, checkKey_run hX hk, q2, hkk, Instr.keyThatStays, hsame, if_true, run_setObj_m _ hm]
            · have := q6 (evalA fr x) (a.eval x) hxst hkst
              simpa using this
        · cases hq
      · cases hq
    · cases hq
  · rename_i x ho
    split at hq
    · rename_i b e1
      split at hq
      · rename_i mb n dn e2
        split at hq
        · rename_i es e3
          split at hq
          · rename_i hlen
            have hx := hfr x
            rw [e1] at hx
            simp only [vrep] at hx
            obtain ⟨g, gs, hi, hu⟩ := hx
            have hb := h.blk _ _ _ _ hi
            rw [show sig S b = S[b]? from rfl, e2] at hb
            obtain ⟨_, gm, gsm, hi2, hit⟩ := hb
            have hb2 := h.blk _ _ _ _ hi2
            rw [show sig S mb = S[mb]? from rfl, e3] at hb2
            obtain ⟨_, ms, clock, hm, hent, hck, hbn⟩ := hb2
            have hl := entRep_len hent
            have hg2 := run_getObj_m (P := P) hm
            have mm : Mono w T T noInj w T B I := ⟨fun _ h => h, h.TB, fun _ _ _ h => (by simp [noInj] at h), fun _ _ => rfl⟩
            split at hq
            · injection hq with hq; injection hq with q1 q2; subst q1 q2
              simp only [entRep] at hent
              have hms2 : ms = #[] := by apply Array.toList_inj.1; rw [hent]
              subst hms2
              have hg1 : (getObj g).run P w = .ok (.mapIter (some gm) n (if dn then #[0] else #[]) n) w := by simp [getObj, Sem.run, hit]
              refine ⟨T, B, I, w, .tuple #[.bool false], _, ?_, .inl rfl, Step.refl, h, ?_⟩
              · simp [execOp, ho, Instr.next, hu, hg1, hg2, choose, Sem.run, Question.forced]
              · simp only [vrep]; exact ⟨[.bool false], rfl, by simp only [listRep]; exact ⟨_, _, rfl, by simp only [vrep], rfl⟩⟩
            · rename_i e
              injection hq with hq; injection hq with q1 q2; subst q1 q2
              simp only [entRep] at hent
              obtain ⟨m, ms', hms, h1, h2, h3⟩ := hent
              subst h3
              have hms2 : ms = #[m] := by apply Array.toList_inj.1; rw [hms]
              subst hms2
              have hb0 : m.born = 0 := hbn 0 m rfl
              simp only [List.length_cons, List.length_nil, Nat.zero_add] at hlen
              subst hlen
              have hg1 : (getObj g).run P w = .ok (.mapIter (some gm) 1 #[] 1) w := by simp [getObj, Sem.run, hit]
              have hset := sig_set (S := S) (blk' := .iter mb 1 true) e2
              obtain ⟨s1, s2⟩ := h.putIter (S' := sig (S.set b (.iter mb 1 true))) hi e2 hset.1 hset.2 hi2
              have hs2 : (setObj g (.mapIter (some gm) 1 #[0] 1)).run P w = .ok () (putM w g (.mapIter (some gm) 1 #[0] 1)) := by simp [setObj, Sem.run, hit, putM]
              refine ⟨T, B, I, putM w g (.mapIter (some gm) 1 #[0] 1), .tuple #[.bool true, m.key, m.val], _, ?_, .inl rfl, s2, s1, ?_⟩
              · subst hck
                simp [execOp, ho, Instr.next, hu, hg1, hg2, choose, Sem.run, Question.forced, hb0, hs2]
              · have mm2 : Mono w T T noInj (putM w g (.mapIter (some gm) 1 #[0] 1)) T B I := ⟨fun _ h => h, h.TB, fun _ _ _ h => (by simp [noInj] at h), fun g' hg' => s2.mono.tw g' (h.TB g' hg')⟩
                simp only [vrep]
                exact ⟨[.bool true, m.key, m.val], rfl, by simp only [listRep]; exact ⟨_, _, rfl, by simp only [vrep], _, _, rfl, vrep_mono _ mm2 (fun _ h => h) h1, _, _, rfl, vrep_mono _ mm2 (fun _ h => h) h2, rfl⟩⟩
            · rename_i e
              injection hq with hq; injection hq with q1 q2; subst q1 q2
              simp only [entRep] at hent
              obtain ⟨m, ms', hms, h1, h2, h3⟩ := hent
              subst h3
              have hms2 : ms = #[m] := by apply Array.toList_inj.1; rw [hms]
              subst hms2
              have hb0 : m.born = 0 := hbn 0 m rfl
              simp only [List.length_cons, List.length_nil, Nat.zero_add] at hlen
              subst hlen
              have hg1 : (getObj g).run P w = .ok (.mapIter (some gm) 1 #[0] 1) w := by simp [getObj, Sem.run, hit]
              refine ⟨T, B, I, w, .tuple #[.bool false], _, ?_, .inl rfl, Step.refl, h, ?_⟩
              · simp [execOp, ho, Instr.next, hu, hg1, hg2, choose, Sem.run, Question.forced, hb0]
              · simp only [vrep]; exact ⟨[.bool false], rfl, by simp only [listRep]; exact ⟨_, _, rfl, by simp only [vrep], rfl⟩⟩
            · cases hq
          · cases hq
        · cases hq
      · cases hq
    · cases hq
  · rename_i args argTypes ho
    split at hq
    · rename_i s x t u ea et
      have ea' : args = #[s, x] := by rw [← Array.toList_inj]; exact ea
      have et' : argTypes = #[t, u] := by rw [← Array.toList_inj]; exact et
      subst ea' et'
      split at hq
      · rename_i el e1
        obtain ⟨_, d, _, _, ht, _, _, _, _, _, k8, _⟩ := ty_run (hX.ty _ _ e1)
        simp only [descOK] at k8
        subst k8
        split at hq
        · rename_i ei e2
          split at hq
          · rename_i hc
            obtain ⟨c1, c2, c3⟩ := hc
            subst c1
            split at hq
            · rename_i news prn e3
              obtain ⟨xo, xc, hxu, hx1, hx2, hx3, hx4'⟩ := rowsOf_rep h (S := S) (fun b blk hb => Holds.of hb) e3 (hfr x)
              have hx4 : news ≠ [] → ∃ g off, xo = some ⟨g, off, none⟩ ∧ rowsRep w news T (if prn then T else B) (if prn then noInj else I) g off ei.size := fun hne =>
                let ⟨g, off, q1, q2, _⟩ := hx4' hne
                ⟨g, off, q1, q2⟩
              have hs := hfr s
              have exec : ∀ r w', (Builtin.append_ #[t, t] o.type #[a.eval s, a.eval x]).run P w = .ok r w' → (execOp a.eval o).run P w = .ok (.value r) w' := fun r w' hr => by
                simp [execOp, ho, resolve, invoke, builtin, hr]
              obtain ⟨tei, _, _, ke1, _⟩ := (hX.ty _ _ e2).ok
              have zero : ∀ (ao : Option Addr) (n cap : Nat), a.eval s = .slice ao n cap → n ≤ cap → news.length = 0 → (execOp a.eval o).run P w = .ok (.value (a.eval s)) w := fun ao n cap hu hn h0 => by
                refine exec _ _ ?_
                rw [hxu, hu, h0]
                exact run_append_zero (P := P) w t o.type el _ ht ke1 ao xo n cap xc hn
              split at hq
              · rename_i b e off len sz e4
                rw [e4] at hs
                split at hq
                · rename_i rows sz' wep pr e5
                  split at hq
                  · rename_i hc
                    obtain ⟨d1, d2, d3, d4, d5, d6, d7, d8⟩ := hc
                    subst d1 d2 d5 d6
                    subst d3
                    split at hq
                    · rename_i h0
                      injection hq with hq; injection hq with q1 q2; subst q1 q2
                      have hs2 := hs
                      simp only [vrep] at hs2
                      rcases hs2 with ⟨_, _, h00, ao, hu⟩ | ⟨g, gs, cap, _, hu, hle, _⟩
                      · exact ⟨T, B, I, w, _, _, zero _ _ _ hu (Nat.le_refl _) h0, .inl rfl, Step.refl, h, hs⟩
                      · exact ⟨T, B, I, w, _, _, zero _ _ _ hu hle h0, .inl rfl, Step.refl, h, hs⟩
                    · rename_i h0
                      injection hq with hq; injection hq with q1 q2; subst q1 q2
                      obtain ⟨I', w', r, r1, r2, r3, r4⟩ := append_own hX (ty := o.type) (xc := xc) (S' := sig (S.set b _)) h ht e2 hx4 c3 h0 d7 d8 hs e5 d4 (sig_set e5).1 (sig_set e5).2
                      exact ⟨T, B, I', w', r, _, exec _ _ (by rw [hxu]; exact r1), .inl rfl, r2, r3, r4⟩
                  · cases hq
                · cases hq
              · cases hq
            · cases hq
          · cases hq
        · cases hq
      · cases hq
    · cases hq
  · rename_i args argTypes ho
    split at hq
    · rename_i s t ea et
      have ea' : args = #[s] := by rw [← Array.toList_inj]; exact ea
      have et' : argTypes = #[t] := by rw [← Array.toList_inj]; exact et
      subst ea' et'
      have exec : ∀ r w', (Builtin.clear_ #[t] o.type #[a.eval s]).run P w = .ok r w' → (execOp a.eval o).run P w = .ok (.value r) w' := fun r w' hr => by
        simp [execOp, ho, resolve, invoke, builtin, hr]
      have hs := hfr s
      have tup0 : ∀ {w T B I}, vrep w (.tup []) T B I (.tuple #[]) := by simp [vrep, listRep]
      split at hq
      · rename_i el b e off len sz e1 e2
        obtain ⟨_, d, _, _, ht, _, _, _, _, _, k8, _⟩ := ty_run (hX.ty _ _ e1)
        simp only [descOK] at k8
        subst k8
        rw [e2] at hs
        split at hq
        · rename_i ei rows sz' wep pr e3 e4
          split at hq
          · rename_i hc
            obtain ⟨d1, d2, d3, d4, d5, d6⟩ := hc
            split at hq
            · rename_i h0
              injection hq with hq; injection hq with q1 q2; subst q1 q2
              refine ⟨T, B, I, w, _, _, exec (.tuple #[]) w ?_, .inl rfl, Step.refl, h, tup0⟩
              simp only [vrep] at hs
              subst h0
              rcases hs with ⟨_, _, _, ao, hu⟩ | ⟨g, gs, cap, _, hu, _⟩
              · cases ao <;> simp [hu, Builtin.clear_, run_underlying ht]
              · simp [hu, Builtin.clear_, run_underlying ht]
            · rename_i h0
              injection hq with hq; injection hq with q1 q2; subst q1 q2
              subst d4
              obtain ⟨w', r1, r2, r3⟩ := clear_sound hX (ty := o.type) (S' := sig (S.set b _)) h ht e3 hs e4 d1 d2 d3 d5 d6 h0 (sig_set e4).1 (sig_set e4).2
              exact ⟨T, B, I, w', _, _, exec _ _ r1, .inl rfl, r2, r3, tup0⟩
          · cases hq
        · cases hq
      · rename_i el st sz e1 e2
        obtain ⟨_, d, _, _, ht, _, _, _, _, _, k8, _⟩ := ty_run (hX.ty _ _ e1)
        simp only [descOK] at k8
        subst k8
        rw [e2] at hs
        injection hq with hq; injection hq with q1 q2; subst q1 q2
        refine ⟨T, B, I, w, _, _, exec (.tuple #[]) w ?_, .inl rfl, Step.refl, h, tup0⟩
        simp only [vrep] at hs
        obtain ⟨ao, cap, hu, _⟩ := hs
        cases ao <;> simp [hu, Builtin.clear_, run_underlying ht]
      · cases hq
    · cases hq
  · cases hq

include hX in
theorem nop_sound {S' : Sig} {dr : Bool} {id : Nat} {fr : List AV} {a : Act} {o : Oper} {v : AV} {nb : List Blk} (h : Rel base T B I S' w) (hS : Ext S S') (hfr : ∀ x, vrep w (evalA fr x) T B I (a.eval x))
    (hq : nopA X dr S id fr o = some (v, nb)) (hfresh : ∀ b e, NewB id nb b e → I b e = none) (hnb : ∀ k blk, nb[k]? = some blk → Holds S' (id + k) blk) :
    ∃ x : Sem Value, execOp a.eval o = (do let u ← x; pure (.value u)) ∧ QOut P base T B I S' w id nb v x := by
  have nilcase : (execOp a.eval o = pure (.value (.slice none 0 0))) → (if dr = true then some (AV.flat (.slice none 0 0), []) else match X.ty o.type with
      | some ⟨_, _, _, _, .slice el⟩ => match X.ty el with
        | some ei => some (AV.sl id 0 0 0 ei.size, [Blk.arr [] ei.size 0 true])
        | none => none
      | _ => none) = some (v, nb) → ∃ x : Sem Value, execOp a.eval o = (do let u ← x; pure (.value u)) ∧ QOut P base T B I S' w id nb v x := by
    intro he hq
    refine ⟨pure (.slice none 0 0), by rw [he]; rfl, ?_⟩
    split at hq
    · injection hq with hq; injection hq with q1 q2; subst q1 q2
      exact QOut.same h ⟨_, rfl, by simp only [vrep]⟩
    · split at hq
      · split at hq
        · injection hq with hq; injection hq with q1 q2; subst q1 q2
          exact QOut.same h ⟨_, rfl, by simp only [vrep]; exact .inl ⟨trivial, trivial, trivial, _, rfl⟩⟩
        · cases hq
      · cases hq
  unfold nopA at hq
  split at hq
  · rename_i ho
    exact nilcase (by simp only [execOp, ho]; rfl) hq
  · rename_i ho
    exact nilcase (by simp only [execOp, ho]; rfl) hq
  · rename_i args argTypes ho
    split at hq
    · rename_i s x t u ea et
      have ea' : args = #[s, x] := by rw [← Array.toList_inj]; exact ea
      have et' : argTypes = #[t, u] := by rw [← Array.toList_inj]; exact et
      subst ea' et'
      split at hq
      · rename_i el e1
        obtain ⟨_, d, _, _, ht, _, _, _, _, _, k8, _⟩ := ty_run (hX.ty _ _ e1)
        simp only [descOK] at k8
        subst k8
        split at hq
        · rename_i ei e2
          split at hq
          · rename_i hc
            obtain ⟨c1, c2, c3⟩ := hc
            subst c1
            split at hq
            · rename_i news prn e3
              obtain ⟨xo, xc, hxu, hx1, hx2, hx3, hx4'⟩ := rowsOf_rep h hS e3 (hfr x)
              have hx4 : news ≠ [] → ∃ g off, xo = some ⟨g, off, none⟩ ∧ rowsRep w news T (if prn then T else B) (if prn then noInj else I) g off ei.size := fun hne =>
                let ⟨g, off, q1, q2, _⟩ := hx4' hne
                ⟨g, off, q1, q2⟩
              have hs := hfr s
              refine ⟨Builtin.append_ #[t, t] o.type #[a.eval s, a.eval x], by simp [execOp, ho, resolve, invoke, builtin], ?_⟩
              obtain ⟨tei, _, _, ke1, _⟩ := (hX.ty _ _ e2).ok
              have zero : ∀ (ao : Option Addr), a.eval s = .slice ao 0 0 → news.length = 0 → (Builtin.append_ #[t, t] o.type #[a.eval s, a.eval x]).run P w = .ok (a.eval s) w := fun ao hu h0 => by
                rw [hxu, hu, h0]
                exact run_append_zero (P := P) w t o.type el _ ht ke1 ao xo 0 0 xc (Nat.le_refl _)
              have more : ∀ (ao : Option Addr), a.eval s = .slice ao 0 0 → news.length ≠ 0 → news.length * ei.bytes ≤ 140737488355328 → news.length ≤ 140737488355328 → nb = [.arr news ei.size 0 prn] → v = .sl id news.length 0 news.length ei.size →
                  QOut P base T B I S' w id nb v (Builtin.append_ #[t, t] o.type #[a.eval s, a.eval x]) := fun ao hu h0 hb1 hb2 hn hv => by
                obtain ⟨I', w', r, r1, r2, r3, r4, r5⟩ := append_fresh hX (ty := o.type) (ao := ao) (xc := xc) (b := id) h ht e2 hx4 c3 h0 hb1 hb2 (hfresh _ _ (by rw [hn]; exact NewB.one rfl (by simp [Blk.len]))) (hnb 0 _ (by rw [hn]; rfl))
                rw [hxu, hu, hv]
                exact ⟨T, B, I', w', r, r1, r2, r3, r4, fun b e p hp => (r5 b e p hp).imp (fun h => h) (fun h => by rw [hn]; exact NewB.one h.1 (by rw [h.2]; simp [Blk.len]))⟩
              split at hq
              · rename_i e4
                rw [e4] at hs
                simp only [vrep] at hs
                obtain ⟨ao, hu⟩ := hs
                split at hq
                · rename_i h0
                  injection hq with hq; injection hq with q1 q2; subst q1 q2
                  exact QOut.same h ⟨_, zero ao hu h0, by simp only [vrep]; exact ⟨ao, hu⟩⟩
                · rename_i h0
                  split at hq
                  · rename_i hb
                    injection hq with hq; injection hq with q1 q2
                    exact more ao hu h0 hb.1 hb.2 q2.symm q1.symm
                  · cases hq
              · rename_i e4
                rw [e4] at hs
                simp only [vrep] at hs
                split at hq
                · rename_i h0
                  injection hq with hq; injection hq with q1 q2; subst q1 q2
                  exact QOut.same h ⟨_, zero none hs h0, by simp only [vrep]; exact hs⟩
                · rename_i h0
                  split at hq
                  · rename_i hb
                    injection hq with hq; injection hq with q1 q2
                    exact more none hs h0 hb.1 hb.2 q2.symm q1.symm
                  · cases hq
              · cases hq
            · cases hq
          · cases hq
        · cases hq
      · cases hq
    · cases hq
  · cases hq
end
end Go.Eng
