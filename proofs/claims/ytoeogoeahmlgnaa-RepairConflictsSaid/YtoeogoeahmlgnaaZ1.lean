/- Part 1 of the texts behind this claim. -/
import Derived.Test.YtoeogoeahmlgnaaPi
import Derived.Test.YtoeogoeahmlgnaaEngV
set_option linter.all false

namespace Go.Eng
variable [Known]
open Go.RowKit Go.Shelf Go.Proofs

attribute [local go_sem] Oper.semAt_some

set_option maxRecDepth 100000 in
set_option maxHeartbeats 1000000 in
omit [Known] in
theorem scalars_in (F : Fence) (n : Nat) (h7 : F.fn 124) (hro : F.round = none) (s : ByteArray) (w : World) :
    CallsIn F n Try.prog 124 #[.string s] w fun e W' => e = .returned (.func (.func 126) #[] #[.pointer (some ⟨w.heap.size, 0, none⟩)]) ∧ W' = w.alloc (.cells #[.string s] 9) := by
  refine callsIn_of_wp Try.func124 rfl h7 ?_ hro
  simp only [Try.ntmps124, List.size_toArray, List.length_cons, List.length_nil, Nat.reduceAdd, Nat.reduceSub, Array.replicate_succ, Array.replicate_zero, List.push_toArray, List.append_toArray, List.nil_append, List.cons_append]
  gi_wp2
  first | go_end0 | go_ret
  exact ⟨rfl, rfl⟩

omit [Known] in
theorem infoI : (Try.prog.info? 3).map (fun i => (i.zero, i.size, i.bytes)) = some (some (.int .i64 0), 1, 8) := by kernel_rfl

set_option maxRecDepth 100000 in
set_option maxHeartbeats 4000000 in
omit [Known] in
theorem points_by (s : ByteArray) (hs : s.size ≤ 1073741824) (w : World) (cV : CallsIn Fence.wide 7 Try.prog 123 #[.string s] w fun e W' => e = .returned (.bool true) ∧ Below w.heap.size w W') (hl : ∃ l, pts s.data.toList = some l) :
    CallsIn Fence.wide 8 Try.prog 122 #[.string s] w (PtsOut 3 s w) := by
  refine callsIn_of_wp_marks Try.func122 rfl trivial ?_ rfl
  simp only [Try.ntmps122, List.size_toArray, List.length_cons, List.length_nil, Nat.reduceAdd, Nat.reduceSub, Array.replicate_succ, Array.replicate_zero, List.push_toArray, List.append_toArray, List.nil_append, List.cons_append]
  · gi_wp2
    refine ⟨trivial, cV.mono ?_⟩
    rintro e w1 ⟨rfl, hb⟩
    gi_wp2
    refine ⟨trivial, (scalars_in Fence.wide 7 trivial rfl s _).mono ?_⟩
    rintro e w2 ⟨rfl, rfl⟩
    gi_wp2
    obtain ⟨l, hl⟩ := hl
    have hrun : (runesG s s.size 0).map (·.2) = l.map fun n : Nat => ((n : Nat) : Int) := runes_pts s s.size 0 l (by omega) (by rw [List.drop_zero]; exact hl)
    obtain ⟨i0, hi, hz0, hz1, hz2⟩ := info_parts infoI
    have bO : Boxed ((w1.alloc (.cells #[.slice none 0 0] 22)).alloc (.cells #[.string s] 9)) w1.heap.size 22 (.slice none 0 0) := (Boxed.new w1 22 (.slice none 0 0)).alloc _
    have hB0 : Below w1.heap.size w1 ((w1.alloc (.cells #[.slice none 0 0] 22)).alloc (.cells #[.string s] 9)) := ((Below.refl _ w1).alloc (Nat.le_refl _) _).alloc (by simp) _
    have hcS : ((w1.alloc (.cells #[.slice none 0 0] 22)).alloc (.cells #[.string s] 9)).cell? ⟨w1.heap.size + 1, 0, none⟩ = some (.string s) := by simp
    refine wpIn_rangeFunc_ownG rfl (by omega) (gf := 126) (lb := #[.pointer (some ⟨w1.heap.size + 1, 0, none⟩)]) rfl trivial (enters_of Try.func126 (by kernel_rfl) rfl)
      (scal_stops Fence.wide 7 trivial rfl (by omega) (w1.heap.size + 1) 0 w1.heap.size s _ (by simp) (by simp; omega) hcS)
      (fun h k => ⟨h.1.trans k.1, h.2.trans k.2⟩) (fun W l o o' hl h hc hw => ⟨belowK_b (by simp; omega) W l o o' hl h hc hw, KeepsWalks.putObj _ h hw⟩) (Below.refl _ _) (fun _ => rfl)
      (fun pre W => (∃ v, Boxed W w1.heap.size 22 v ∧ W.ownsRow w1.heap.size 3 1 v pre.length (pre.map fun x => Value.int .i64 x.2) ∧ (v = .slice none 0 0 ↔ pre = [])) ∧ Below w1.heap.size w1 W)
      (fun _ _ _ => False)
      (OwnFrom.and (Own.from (holdsRow_own w1.heap.size w1.heap.size 22 3 1 (fun pre : List (Int × Int) => pre.length) (fun pre => pre.map fun x => Value.int .i64 x.2) (fun pre v => v = .slice none 0 0 ↔ pre = [])) _) (ownFrom_below (Nat.le_refl _) (by simp; omega)))
      (fun _ _ _ _ _ hs _ _ => hs)
      ⟨⟨_, bO, World.ownsRow_nil _ _ _ _, by simp⟩, hB0⟩
      (fun x => { tmps := #[.string s, undef, .slice none 0 0, .bool false, .pointer (some ⟨w1.heap.size, 0, none⟩), undef, .int .i64 x.2, .string s, .bool true, .bool false, .string s, .func (.func 126) #[] #[.pointer (some ⟨w1.heap.size + 1, 0, none⟩)], .int .i64 x.1, .int .i64 x.2, undef, undef, undef, undef, undef], defers := [] }) ?assign ?body ?done ?stop
    case assign =>
      intro l x W K hK
      gi_wp2
      exact hK
    case body =>
      rintro l pre x W ⟨⟨v, hv, hrow, hnil⟩, hB⟩ hlt
      have hc := hv.cell
      have hml : pre.length + 1 ≤ maxLen := by unfold maxLen; omega
      have hml2 : (pre.length + 1) * 8 ≤ 140737488355328 := by omega
      gi_wp2_with (gi_at_builtin; refine wpListIn_append_own _ rfl _ _ 22 rfl w1.heap.size 3 i0 (.int .i64 0) 1 8 Try.underlying22 hi hz0 hz1 hz2 rfl (by decide) _ _ _ rfl (hrow.alloc _) ⟨W.heap.size, 0, none⟩ 1 1 [.int .i64 x.2] rfl rfl (cell_one_new _ _ _) (by simp [Value.oneCell']) (by omega) (by omega) (by have := hB.size; simp; omega) ?_; intro v' w1' hown' hgrow _; obtain ⟨g', cap', rfl⟩ := ownsRow_succ hown'; obtain ⟨hv1, hv2, hr2, hk2, hb2⟩ := hv.appended (by decide) hrow hB.size (Nat.le_refl _) hown' hgrow; have hc1 := hv1.cell; have hf1 := hv1.frozen)
      exact ⟨hk2.from _, ⟨hb2, hk2.walks⟩, ⟨_, hv2, by simpa using hr2, by simp⟩, hB.trans hb2⟩
    case done =>
      rintro D ys W hD rfl ⟨⟨v, hv, hrow, hnil⟩, hB⟩ hK
      have hc := hv.cell
      gi_wp2
      refine ⟨by simp, .inl ⟨_, _, rfl, run_takeDeferred hK, ?_⟩⟩
      refine ⟨_, results_tmp2 rfl _ _ _, v, true, rfl, ?_, ?_⟩
      · exact (hb.trans (hB.mono hb.size)).trans (belowK_b (w := w) (Nat.le_refl _) W D _ _ (by have := hb.size; simp at hD; omega) hK rfl rfl)
      · rw [hl]
        have hlen : (runesG s s.size 0).length = l.length := by have := congrArg List.length hrun; simpa using this
        have hmap : (runesG s s.size 0).map (fun x => Value.int .i64 x.2) = l.map fun n : Nat => Value.int .i64 (n : Int) := by
          have := congrArg (List.map (Value.int .i64)) hrun
          simpa [List.map_map, Function.comp_def] using this
        rw [hlen, hmap] at hrow
        have hrow2 := ownsRow_putObj hrow (.deferred none) hK rfl
        refine ⟨rfl, ⟨hrow2.1, ?_⟩, ?_⟩
        · rcases hrow2.2 with h | ⟨g, cap, cur, h1, h2, h3⟩
          · exact .inl h
          · exact .inr ⟨g, cap, cur, h1, Nat.le_trans hb.size h2, h3⟩
        · rw [hnil, ← List.length_eq_zero_iff, hlen, List.length_eq_zero_iff]
    case stop =>
      rintro D c pre W _ _ h _
      exact h.elim

end Go.Eng

/- Conversions between numbers, and from bytes to a string. -/
namespace Go.Eng
open Go.RowKit

def cvtK (v : AV) (k : IntKind) (dst : Option Tmp) (K : List AV → Store → Prop) (fr : List AV) (S : Store) (P : Prop) : Prop :=
  match v with
  | .int _ n => K (putA fr dst (.int k (k.wrap n))) S
  | _ => P
theorem cvtK_int {k k' : IntKind} {n : Int} {dst : Option Tmp} {K : List AV → Store → Prop} {fr : List AV} {S : Store} {P : Prop} : cvtK (.int k' n) k dst K fr S P = K (putA fr dst (.int k (k.wrap n))) S := rfl
theorem wpK_cvt {X : Ctx} {d : Bool} {dst : Option Tmp} {ty : TypeId} {pos : String} {after : Array Edge} {g : Option (Nat × Bool)} {K : List AV → Store → Prop} {fr : List AV} {S : Store} {s t : TypeId} {x : Operand} {i j : TyI} {k : IntKind} (hs : X.ty s = some j) (ht : X.ty t = some i) (hk : i.desc = .int k) :
    wpK X d ⟨dst, .convert s t x, ty, pos, after, g⟩ dst K fr S = cvtK (evalA fr x) k dst K fr S (wp1 X d ⟨dst, .convert s t x, ty, pos, after, g⟩ (fun v S' => K (putA fr dst v) S') fr S) := by
  obtain ⟨a, b, c, e, f⟩ := i
  simp only at hk; subst hk
  unfold cvtK
  split
  · rename_i k' n hv
    unfold wpK wp1
    simp only [popA, convA, hs, ht, hv]
  · unfold wpK; rfl

def bsK (y : AV) (dst : Option Tmp) (K : List AV → Store → Prop) (fr : List AV) (S : Store) (P : Prop) : Prop :=
  match y with
  | .sl b e off len sz => match rowsOf S 1 (.sl b e off len sz) with
    | some (rows, _) => match bytesOf rows with
      | some l => K (putA fr dst (.str ⟨l.toArray⟩)) S
      | none => False
    | none => False
  | .tsl st sz rows => match rowsOf S 1 (.tsl st sz rows) with
    | some (rows, _) => match bytesOf rows with
      | some l => K (putA fr dst (.str ⟨l.toArray⟩)) S
      | none => False
    | none => False
  | _ => P
theorem bsK_sl {b e off len sz : Nat} {dst : Option Tmp} {K : List AV → Store → Prop} {fr : List AV} {S : Store} {P : Prop} : bsK (.sl b e off len sz) dst K fr S P = match rowsOf S 1 (.sl b e off len sz) with
    | some (rows, _) => match bytesOf rows with
      | some l => K (putA fr dst (.str ⟨l.toArray⟩)) S
      | none => False
    | none => False := rfl
theorem wpK_bs {X : Ctx} {d : Bool} {dst : Option Tmp} {ty : TypeId} {pos : String} {after : Array Edge} {g : Option (Nat × Bool)} {K : List AV → Store → Prop} {fr : List AV} {S : Store} {s t el : TypeId} {x : Operand} {i j e : TyI}
    (hs : X.ty s = some j) (ht : X.ty t = some i) (he : X.ty el = some e) (hj : j.desc = .slice el) (hi : i.desc = .str) (hd : e.desc = .int .u8) :
    wpK X d ⟨dst, .convert s t x, ty, pos, after, g⟩ dst K fr S = bsK (evalA fr x) dst K fr S (wp1 X d ⟨dst, .convert s t x, ty, pos, after, g⟩ (fun v S' => K (putA fr dst v) S') fr S) := by
  obtain ⟨a1, b1, c1, e1, f1⟩ := i
  obtain ⟨a2, b2, c2, e2, f2⟩ := j
  obtain ⟨a3, b3, c3, e3, f3⟩ := e
  simp only at hj hi hd; subst hj hi hd
  have go : ∀ y, evalA fr x = y → convA X s t y = none → (∀ st, y ≠ .str st) → wpK X d ⟨dst, .convert s t x, ty, pos, after, g⟩ dst K fr S = match rowsOf S 1 y with
      | some (rows, _) => match bytesOf rows with
        | some l => K (putA fr dst (.str ⟨l.toArray⟩)) S
        | none => False
      | none => False := by
    intro y hy hc hn
    subst hy
    have hp : popA X fr ⟨dst, .convert s t x, ty, pos, after, g⟩ = none := by simp only [popA, hc]
    rw [wpK_qop (match rowsOf S 1 (evalA fr x) with | some (rows, _) => (bytesOf rows).map fun l => (.str ⟨l.toArray⟩, []) | none => none) hp (by
      simp only [qopA, hs, ht, he]
      cases rowsOf S 1 (evalA fr x) <;> rfl) rfl rfl rfl]
    cases rowsOf S 1 (evalA fr x) with
    | none => simp only [pairK]
    | some rp =>
      obtain ⟨rows, pr⟩ := rp
      simp only
      cases bytesOf rows with
      | none => simp only [Option.map_none, pairK]
      | some l => simp only [Option.map_some, pairK_some, List.append_nil]
  unfold bsK
  split
  · rename_i y1 b e off len sz hy; rw [go _ hy (by simp [convA, hs, ht]) (by simp)]
  · rename_i y1 st sz rows hy; rw [go _ hy (by simp [convA, hs, ht]) (by simp)]
  · unfold wpK; rfl
theorem bytesOf_nil : bytesOf [] = some [] := rfl
theorem bytesOf_cons {n : Int} {rest : List (List AV)} : bytesOf ([.int .u8 n] :: rest) = (bytesOf rest).map (UInt8.ofNat n.toNat :: ·) := rfl
theorem wI {n : Nat} (h : n < 9223372036854775808) : IntKind.wrap .i64 (n : Int) = n := wrap_small (by omega) (by omega)
theorem wB {n : Nat} (h : n < 256) : IntKind.wrap .u8 (n : Int) = n := by
  simp [IntKind.wrap, IntKind.min, IntKind.max, IntKind.signed, IntKind.bits]
  omega
theorem wIB {n : Nat} (h : n < 256) : IntKind.wrap .i64 (n : Int) = n := wI (by omega)
theorem tdivn (a b : Nat) : Int.tdiv (a : Int) (b : Int) = ((a / b : Nat) : Int) := rfl
theorem tmodn (a b : Nat) : Int.tmod (a : Int) (b : Int) = ((a % b : Nat) : Int) := rfl
end Go.Eng
