/- Scalars and their bytes (plain): the reference's Points over the bytes, and the library's "valid" is "it has points". -/
import Derived.Test.YtoeogoeahmlgnaaGreatDoorEngV
import Derived.Lib.MapLaws
import Derived.Lib.ValidLaws
set_option linter.all false
namespace Go.Eng

def scal (p : Nat) : Bool := decide (p ≤ 1114111) && (decide (p < 55296) || decide (57343 < p))
/-- The bytes of a scalar. -/
def encU (p : Nat) : List UInt8 :=
  if p < 128 then [UInt8.ofNat p]
  else if p < 2048 then [UInt8.ofNat (192 + p / 64), UInt8.ofNat (128 + p % 64)]
  else if p < 65536 then [UInt8.ofNat (224 + p / 4096), UInt8.ofNat (128 + p / 64 % 64), UInt8.ofNat (128 + p % 64)]
  else [UInt8.ofNat (240 + p / 262144), UInt8.ofNat (128 + p / 4096 % 64), UInt8.ofNat (128 + p / 64 % 64), UInt8.ofNat (128 + p % 64)]

/-- The head of an encoding: what its first byte says. -/
def hdU (c : Nat) : Nat × Nat := if 240 ≤ c then (c - 240, 4) else if 224 ≤ c then (c - 224, 3) else if 192 ≤ c then (c - 192, 2) else (c, 1)
def accU (p : Nat) (l : List UInt8) : Nat := l.foldl (fun p b => p * 64 + b.toNat % 64) p
/-- The scalar at the head of some bytes, and its length. -/
def fstU : List UInt8 → Option (Nat × Nat)
  | [] => none
  | c :: tl => if tl.length + 1 < (hdU c.toNat).2 then none else
    if scal (accU (hdU c.toNat).1 (tl.take ((hdU c.toNat).2 - 1))) = true ∧ encU (accU (hdU c.toNat).1 (tl.take ((hdU c.toNat).2 - 1))) = (c :: tl).take (hdU c.toNat).2 then some (accU (hdU c.toNat).1 (tl.take ((hdU c.toNat).2 - 1)), (hdU c.toNat).2) else none
theorem hdU_n (c : Nat) : 1 ≤ (hdU c).2 ∧ (hdU c).2 ≤ 4 := by
  unfold hdU; repeat' split
  all_goals simp
theorem hdU_p {c : Nat} (h : c < 256) : (hdU c).1 < 256 := by
  unfold hdU; repeat' split
  all_goals (simp; omega)
theorem accU_lt : ∀ (l : List UInt8) (p : Nat), accU p l < (p + 1) * 64 ^ l.length
  | [], p => by simp [accU]
  | b :: l, p => by
    have h := accU_lt l (p * 64 + b.toNat % 64)
    have e : accU p (b :: l) = accU (p * 64 + b.toNat % 64) l := rfl
    rw [e, List.length_cons, Nat.pow_succ]
    have h1 : b.toNat % 64 < 64 := Nat.mod_lt _ (by omega)
    have h2 : p * 64 + b.toNat % 64 + 1 ≤ (p + 1) * 64 := by omega
    calc accU (p * 64 + b.toNat % 64) l < (p * 64 + b.toNat % 64 + 1) * 64 ^ l.length := h
      _ ≤ ((p + 1) * 64) * 64 ^ l.length := Nat.mul_le_mul_right _ h2
      _ = (p + 1) * (64 ^ l.length * 64) := by rw [Nat.mul_assoc, Nat.mul_comm 64]
def ptsU : Nat → List UInt8 → Option (List Nat)
  | _, [] => some []
  | 0, _ :: _ => none
  | k + 1, c :: l => match fstU (c :: l) with
    | none => none
    | some (p, n) => (ptsU k ((c :: l).drop n)).map (p :: ·)
/-- The scalars of some bytes. -/
def pts (l : List UInt8) : Option (List Nat) := ptsU l.length l
theorem fstU_n {l : List UInt8} {p n : Nat} (h : fstU l = some (p, n)) : 1 ≤ n ∧ n ≤ l.length := by
  cases l with
  | nil => simp [fstU] at h
  | cons c tl =>
    rw [fstU] at h
    by_cases h1 : tl.length + 1 < (hdU c.toNat).2
    · rw [if_pos h1] at h; cases h
    · rw [if_neg h1] at h
      split at h
      · injection h with h; injection h with _ h; subst h
        have := hdU_n c.toNat
        simp only [List.length_cons]; omega
      · cases h
theorem ptsU_fuel : ∀ (k : Nat) (l : List UInt8), l.length ≤ k → ptsU k l = ptsU l.length l := by
  intro k
  induction k using Nat.strongRecOn with
  | _ k ih =>
    intro l hl
    cases l with
    | nil => cases k <;> rfl
    | cons c l =>
      cases k with
      | zero => simp at hl
      | succ k =>
        simp only [List.length_cons, ptsU]
        cases h : fstU (c :: l) with
        | none => rfl
        | some pn =>
          obtain ⟨p, n⟩ := pn
          have hn := fstU_n h
          simp only [List.length_cons] at hl hn
          simp only
          have hd : ((c :: l).drop n).length ≤ l.length := by simp only [List.length_drop, List.length_cons]; omega
          rw [ih k (Nat.lt_succ_self _) _ (by omega)]
          by_cases hk : l.length < k + 1
          · rw [ih l.length hk _ hd]
          · have : l.length = k := by omega
            subst this; rw [ih l.length (Nat.lt_succ_self _) _ hd]
theorem pts_nil : pts [] = some [] := rfl
theorem pts_none {c : UInt8} {l : List UInt8} (h : fstU (c :: l) = none) : pts (c :: l) = none := by
  unfold pts; simp only [List.length_cons, ptsU, h]
theorem pts_some {c : UInt8} {l : List UInt8} {p n : Nat} (h : fstU (c :: l) = some (p, n)) : pts (c :: l) = (pts ((c :: l).drop n)).map (p :: ·) := by
  have hn := fstU_n h
  unfold pts
  simp only [List.length_cons, ptsU, h]
  rw [ptsU_fuel l.length _ (by simp only [List.length_drop, List.length_cons]; omega)]

theorem ofNat_iff (x : Nat) (b : UInt8) : UInt8.ofNat x = b ↔ x % 256 = b.toNat := by
  rw [← UInt8.toNat_inj]; simp
theorem fstU_one {a : UInt8} {r : List UInt8} (h : a.toNat < 128) : fstU (a :: r) = some (a.toNat, 1) := by
  have hd : hdU a.toNat = (a.toNat, 1) := by unfold hdU; rw [if_neg (by omega), if_neg (by omega), if_neg (by omega)]
  have he : encU a.toNat = [a] := by unfold encU; rw [if_pos h]; simp
  rw [fstU]
  rw [hd]
  simp only [Nat.sub_self, List.take_zero, accU, List.foldl_nil, he]
  rw [if_neg (by omega), if_pos ⟨by simp [scal]; omega, by simp⟩]
theorem fstU_bad {a : UInt8} {r : List UInt8} (h : 128 ≤ a.toNat) (h2 : a.toNat < 192) : fstU (a :: r) = none := by
  have hd : hdU a.toNat = (a.toNat, 1) := by unfold hdU; rw [if_neg (by omega), if_neg (by omega), if_neg (by omega)]
  rw [fstU]
  rw [hd]
  simp only [Nat.sub_self, List.take_zero, accU, List.foldl_nil]
  rw [if_neg (by omega), if_neg]
  rintro ⟨-, h3⟩
  have := congrArg List.length h3
  unfold encU at this
  rw [if_neg (by omega), if_pos (by omega)] at this
  simp at this
theorem fstU_two {a b : UInt8} {r : List UInt8} (h : 192 ≤ a.toNat) (h2 : a.toNat < 224) :
    fstU (a :: b :: r) = if b.toNat / 64 = 2 ∧ 128 ≤ (a.toNat - 192) * 64 + b.toNat % 64 then some ((a.toNat - 192) * 64 + b.toNat % 64, 2) else none := by
  have hd : hdU a.toNat = (a.toNat - 192, 2) := by unfold hdU; rw [if_neg (by omega), if_neg (by omega), if_pos (by omega)]
  have hb := b.toNat_lt
  rw [fstU]
  rw [hd]
  obtain ⟨p, hp⟩ : ∃ p, (a.toNat - 192) * 64 + b.toNat % 64 = p := ⟨_, rfl⟩
  simp only [Nat.reduceSub, List.take_succ_cons, List.take_zero, accU, List.foldl_cons, List.foldl_nil, hp, List.length_cons]
  rw [if_neg (by omega)]
  have hs : scal p = true := by simp [scal]; omega
  have he : encU p = [a, b] ↔ b.toNat / 64 = 2 ∧ 128 ≤ p := by
    unfold encU
    by_cases h3 : p < 128
    · rw [if_pos h3]; simp; omega
    · rw [if_neg h3, if_pos (by omega)]
      simp only [List.cons.injEq, ofNat_iff, and_true]
      omega
  simp only [hs, he, true_and]
theorem fstU_three {a b c : UInt8} {r : List UInt8} (h : 224 ≤ a.toNat) (h2 : a.toNat < 240) :
    fstU (a :: b :: c :: r) = if b.toNat / 64 = 2 ∧ c.toNat / 64 = 2 ∧ 2048 ≤ ((a.toNat - 224) * 64 + b.toNat % 64) * 64 + c.toNat % 64 ∧ scal (((a.toNat - 224) * 64 + b.toNat % 64) * 64 + c.toNat % 64) = true then some (((a.toNat - 224) * 64 + b.toNat % 64) * 64 + c.toNat % 64, 3) else none := by
  have hd : hdU a.toNat = (a.toNat - 224, 3) := by unfold hdU; rw [if_neg (by omega), if_pos (by omega)]
  have hb := b.toNat_lt
  have hc := c.toNat_lt
  rw [fstU]
  rw [hd]
  obtain ⟨p, hp⟩ : ∃ p, ((a.toNat - 224) * 64 + b.toNat % 64) * 64 + c.toNat % 64 = p := ⟨_, rfl⟩
  simp only [Nat.reduceSub, List.take_succ_cons, List.take_zero, accU, List.foldl_cons, List.foldl_nil, hp, List.length_cons]
  rw [if_neg (by omega)]
  have he : encU p = [a, b, c] ↔ b.toNat / 64 = 2 ∧ c.toNat / 64 = 2 ∧ 2048 ≤ p := by
    unfold encU
    by_cases h3 : p < 128
    · rw [if_pos h3]; simp; omega
    · rw [if_neg h3]
      by_cases h4 : p < 2048
      · rw [if_pos h4]; simp; omega
      · rw [if_neg h4, if_pos (by omega)]
        simp only [List.cons.injEq, ofNat_iff, and_true]
        omega
  simp only [he, and_assoc, and_comm (a := scal p = true)]
theorem fstU_four {a b c d : UInt8} {r : List UInt8} (h : 240 ≤ a.toNat) :
    fstU (a :: b :: c :: d :: r) = if b.toNat / 64 = 2 ∧ c.toNat / 64 = 2 ∧ d.toNat / 64 = 2 ∧ 65536 ≤ (((a.toNat - 240) * 64 + b.toNat % 64) * 64 + c.toNat % 64) * 64 + d.toNat % 64 ∧ scal ((((a.toNat - 240) * 64 + b.toNat % 64) * 64 + c.toNat % 64) * 64 + d.toNat % 64) = true then some ((((a.toNat - 240) * 64 + b.toNat % 64) * 64 + c.toNat % 64) * 64 + d.toNat % 64, 4) else none := by
  have hd : hdU a.toNat = (a.toNat - 240, 4) := by unfold hdU; rw [if_pos (by omega)]
  have ha := a.toNat_lt
  have hb := b.toNat_lt
  have hc := c.toNat_lt
  have hdd := d.toNat_lt
  rw [fstU]
  rw [hd]
  obtain ⟨p, hp⟩ : ∃ p, (((a.toNat - 240) * 64 + b.toNat % 64) * 64 + c.toNat % 64) * 64 + d.toNat % 64 = p := ⟨_, rfl⟩
  simp only [Nat.reduceSub, List.take_succ_cons, List.take_zero, accU, List.foldl_cons, List.foldl_nil, hp, List.length_cons]
  rw [if_neg (by omega)]
  have he : encU p = [a, b, c, d] ↔ b.toNat / 64 = 2 ∧ c.toNat / 64 = 2 ∧ d.toNat / 64 = 2 ∧ 65536 ≤ p := by
    unfold encU
    by_cases h3 : p < 128
    · rw [if_pos h3]; simp; omega
    · rw [if_neg h3]
      by_cases h4 : p < 2048
      · rw [if_pos h4]; simp; omega
      · rw [if_neg h4]
        by_cases h5 : p < 65536
        · rw [if_pos h5]; simp; omega
        · rw [if_neg h5]
          simp only [List.cons.injEq, ofNat_iff, and_true]
          omega
  simp only [he, and_assoc, and_comm (a := scal p = true)]
theorem fstU_short {a : UInt8} {r : List UInt8} (h : r.length + 1 < (hdU a.toNat).2) : fstU (a :: r) = none := by
  rw [fstU, if_pos h]
theorem scal_iff {p : Nat} : scal p = true ↔ p ≤ 1114111 ∧ (p < 55296 ∨ 57343 < p) := by simp [scal]
theorem dec_bad {n b0 b1 b2 b3 : Nat} (h : 128 ≤ b0 ∧ b0 < 192 ∨ 248 ≤ b0) (h2 : b0 < 256) : Lib.decodeN n b0 b1 b2 b3 = (65533, 1) := by
  unfold Lib.decodeN
  rw [if_neg (by omega), if_neg (by omega), if_neg (by omega), if_neg (by omega)]
theorem dec_two {n b0 b1 b2 b3 : Nat} (h : 192 ≤ b0) (h2 : b0 < 224) : Lib.decodeN n b0 b1 b2 b3 =
    if 1 < n ∧ b1 / 64 = 2 ∧ 128 ≤ (b0 - 192) * 64 + b1 % 64 then ((b0 - 192) * 64 + b1 % 64, 2) else (65533, 1) := by
  have e : b0 % 32 = b0 - 192 := by omega
  unfold Lib.decodeN
  rw [if_neg (by omega), e]
  by_cases c : 1 < n ∧ b1 / 64 = 2
  · rw [if_pos (by omega)]
    by_cases d : 128 ≤ (b0 - 192) * 64 + b1 % 64
    · rw [if_pos d, if_pos ⟨c.1, c.2, d⟩]
    · rw [if_neg d, if_neg (fun q => d q.2.2)]
  · rw [if_neg (by omega), if_neg (by omega), if_neg (by omega), if_neg (fun q => c ⟨q.1, q.2.1⟩)]
theorem dec_three {n b0 b1 b2 b3 : Nat} (h : 224 ≤ b0) (h2 : b0 < 240) : Lib.decodeN n b0 b1 b2 b3 =
    if 2 < n ∧ b1 / 64 = 2 ∧ b2 / 64 = 2 ∧ 2048 ≤ ((b0 - 224) * 64 + b1 % 64) * 64 + b2 % 64 ∧ scal (((b0 - 224) * 64 + b1 % 64) * 64 + b2 % 64) = true then (((b0 - 224) * 64 + b1 % 64) * 64 + b2 % 64, 3) else (65533, 1) := by
  have e : b0 % 16 * 4096 + b1 % 64 * 64 + b2 % 64 = ((b0 - 224) * 64 + b1 % 64) * 64 + b2 % 64 := by omega
  simp only [scal_iff]
  unfold Lib.decodeN
  rw [if_neg (by omega), if_neg (by omega), e]
  have k : ((b0 - 224) * 64 + b1 % 64) * 64 + b2 % 64 ≤ 1114111 := by omega
  obtain ⟨p, hp⟩ : ∃ p, ((b0 - 224) * 64 + b1 % 64) * 64 + b2 % 64 = p := ⟨_, rfl⟩
  rw [hp] at k ⊢
  by_cases c : 2 < n ∧ b1 / 64 = 2 ∧ b2 / 64 = 2
  · rw [if_pos (by omega)]
    by_cases d : 2048 ≤ p ∧ (p < 55296 ∨ 57343 < p)
    · rw [if_pos (by omega), if_pos ⟨c.1, c.2.1, c.2.2, d.1, k, d.2⟩]
    · rw [if_neg (by omega), if_neg (fun q => d ⟨q.2.2.2.1, q.2.2.2.2.2⟩)]
  · rw [if_neg (by omega), if_neg (by omega), if_neg (fun q => c ⟨q.1, q.2.1, q.2.2.1⟩)]
theorem dec_four {n b0 b1 b2 b3 : Nat} (h : 240 ≤ b0) (h2 : b0 < 256) : Lib.decodeN n b0 b1 b2 b3 =
    if 3 < n ∧ b1 / 64 = 2 ∧ b2 / 64 = 2 ∧ b3 / 64 = 2 ∧ 65536 ≤ (((b0 - 240) * 64 + b1 % 64) * 64 + b2 % 64) * 64 + b3 % 64 ∧ scal ((((b0 - 240) * 64 + b1 % 64) * 64 + b2 % 64) * 64 + b3 % 64) = true then ((((b0 - 240) * 64 + b1 % 64) * 64 + b2 % 64) * 64 + b3 % 64, 4) else (65533, 1) := by
  simp only [scal_iff]
  by_cases h3 : b0 < 248
  · have e : b0 % 8 * 262144 + b1 % 64 * 4096 + b2 % 64 * 64 + b3 % 64 = (((b0 - 240) * 64 + b1 % 64) * 64 + b2 % 64) * 64 + b3 % 64 := by omega
    unfold Lib.decodeN
    rw [if_neg (by omega), if_neg (by omega), if_neg (by omega), e]
    obtain ⟨p, hp⟩ : ∃ p, (((b0 - 240) * 64 + b1 % 64) * 64 + b2 % 64) * 64 + b3 % 64 = p := ⟨_, rfl⟩
    rw [hp]
    by_cases c : 3 < n ∧ b1 / 64 = 2 ∧ b2 / 64 = 2 ∧ b3 / 64 = 2
    · rw [if_pos (by omega)]
      by_cases d : 65536 ≤ p ∧ p ≤ 1114111
      · rw [if_pos (by omega), if_pos (by omega)]
      · rw [if_neg (by omega), if_neg (by omega)]
    · rw [if_neg (by omega), if_neg (fun q => c ⟨q.1, q.2.1, q.2.2.1, q.2.2.2.1⟩)]
  · rw [dec_bad (by omega) h2, if_neg (by omega)]
theorem seenB {o : Option (Nat × Nat)} {r : Nat × Nat} (ho : o = none) (h : r = (65533, 1)) : o = if r.1 = 65533 ∧ r.2 = 1 then none else some r := by
  subst h; rw [ho, if_pos ⟨rfl, rfl⟩]
theorem seenG {o : Option (Nat × Nat)} {r : Nat × Nat} {p n : Nat} (ho : o = some (p, n)) (hn : p < 128 ∨ 1 < n) (h : r = (p, n)) : o = if r.1 = 65533 ∧ r.2 = 1 then none else some r := by
  subst h; rw [ho, if_neg (by simp only; omega)]
/-- The reference's first scalar is the library's, where that is valid. -/
theorem fstU_decode : ∀ l : List UInt8, l ≠ [] → fstU l = if (Lib.decodeL l).1 = 65533 ∧ (Lib.decodeL l).2 = 1 then none else some (Lib.decodeL l) := by
  intro l hl
  rw [Lib.decodeL_N]
  match l, hl with
  | a :: r, _ =>
    have k0 := a.toNat_lt
    simp only [List.getD_cons_zero, List.length_cons]
    by_cases c1 : a.toNat < 128
    · exact seenG (fstU_one c1) (Or.inl c1) (Lib.decodeN_ascii _ _ _ _ _ c1)
    by_cases c2 : a.toNat < 192
    · exact seenB (fstU_bad (by omega) c2) (dec_bad (by omega) (by omega))
    by_cases c3 : a.toNat < 224
    · match r with
      | [] => exact seenB (fstU_short (by unfold hdU; rw [if_neg (by omega), if_neg (by omega), if_pos (by omega)]; simp)) ((dec_two (by omega) c3).trans (if_neg (by simp)))
      | b :: r =>
        simp only [List.getD_cons_succ, List.getD_cons_zero, List.length_cons]
        by_cases d : b.toNat / 64 = 2 ∧ 128 ≤ (a.toNat - 192) * 64 + b.toNat % 64
        · exact seenG ((fstU_two (by omega) c3).trans (if_pos d)) (Or.inr (by omega)) ((dec_two (by omega) c3).trans (if_pos ⟨by omega, d⟩))
        · exact seenB ((fstU_two (by omega) c3).trans (if_neg d)) ((dec_two (by omega) c3).trans (if_neg (fun q => d q.2)))
    by_cases c4 : a.toNat < 240
    · have hh : (hdU a.toNat).2 = 3 := by unfold hdU; rw [if_neg (by omega), if_pos (by omega)]
      match r with
      | [] => exact seenB (fstU_short (by rw [hh]; simp)) ((dec_three (by omega) c4).trans (if_neg (by simp)))
      | [b] => exact seenB (fstU_short (by rw [hh]; simp)) ((dec_three (by omega) c4).trans (if_neg (by simp)))
      | b :: c :: r =>
        simp only [List.getD_cons_succ, List.getD_cons_zero, List.length_cons]
        by_cases d : b.toNat / 64 = 2 ∧ c.toNat / 64 = 2 ∧ 2048 ≤ ((a.toNat - 224) * 64 + b.toNat % 64) * 64 + c.toNat % 64 ∧ scal (((a.toNat - 224) * 64 + b.toNat % 64) * 64 + c.toNat % 64) = true
        · exact seenG ((fstU_three (by omega) c4).trans (if_pos d)) (Or.inr (by omega)) ((dec_three (by omega) c4).trans (if_pos ⟨by omega, d⟩))
        · exact seenB ((fstU_three (by omega) c4).trans (if_neg d)) ((dec_three (by omega) c4).trans (if_neg (fun q => d q.2)))
    · have hh : (hdU a.toNat).2 = 4 := by unfold hdU; rw [if_pos (by omega)]
      match r with
      | [] => exact seenB (fstU_short (by rw [hh]; simp)) ((dec_four (by omega) (by omega)).trans (if_neg (by simp)))
      | [b] => exact seenB (fstU_short (by rw [hh]; simp)) ((dec_four (by omega) (by omega)).trans (if_neg (by simp)))
      | [b, c] => exact seenB (fstU_short (by rw [hh]; simp)) ((dec_four (by omega) (by omega)).trans (if_neg (by simp)))
      | b :: c :: d :: r =>
        simp only [List.getD_cons_succ, List.getD_cons_zero, List.length_cons]
        by_cases q : b.toNat / 64 = 2 ∧ c.toNat / 64 = 2 ∧ d.toNat / 64 = 2 ∧ 65536 ≤ (((a.toNat - 240) * 64 + b.toNat % 64) * 64 + c.toNat % 64) * 64 + d.toNat % 64 ∧ scal ((((a.toNat - 240) * 64 + b.toNat % 64) * 64 + c.toNat % 64) * 64 + d.toNat % 64) = true
        · exact seenG ((fstU_four (by omega)).trans (if_pos q)) (Or.inr (by omega)) ((dec_four (by omega) (by omega)).trans (if_pos ⟨by omega, q⟩))
        · exact seenB ((fstU_four (by omega)).trans (if_neg q)) ((dec_four (by omega) (by omega)).trans (if_neg (fun x => q x.2)))
/-- The library's "valid" says that the bytes have points. -/
theorem validD_pts : ∀ (n : Nat) (l : List UInt8), l.length ≤ n → Lib.validD l = (pts l).isSome := by
  intro n
  induction n with
  | zero => intro l h; have : l = [] := List.eq_nil_of_length_eq_zero (by omega); subst this; rfl
  | succ n ih =>
    intro l h
    cases l with
    | nil => rfl
    | cons c l =>
      have hf := fstU_decode (c :: l) (by simp)
      rw [Lib.validD_step _ (by simp)]
      by_cases hb : (Lib.decodeL (c :: l)).1 = 65533 ∧ (Lib.decodeL (c :: l)).2 = 1
      · rw [if_pos hb]; rw [if_pos hb] at hf; rw [pts_none hf]; rfl
      · rw [if_neg hb]; rw [if_neg hb] at hf
        have hn := fstU_n (p := (Lib.decodeL (c :: l)).1) (n := (Lib.decodeL (c :: l)).2) hf
        rw [pts_some (p := (Lib.decodeL (c :: l)).1) (n := (Lib.decodeL (c :: l)).2) hf, ih _ (by rw [List.length_drop]; simp only [List.length_cons] at h ⊢; omega)]
        cases pts _ <;> rfl
end Go.Eng
