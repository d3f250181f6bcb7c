/- Plain facts on words of floats: each that is no NaN stands for a whole number of least units; they stand to each other as these do. No program in sight. -/
import Derived.Test.YtmenjcjpihpjjaaDoorFBase
set_option linter.unusedSimpArgs false
set_option linter.unusedVariables false
set_option exponentiation.threshold 5000
namespace Go.Proofs.YtmenjcjpihpjjaaDoor.Fb
open Go

theorem sw : Ieee.double.signWeight = 9223372036854775808 := by decide
theorem bn : Ieee.double.binade = 4503599627370496 := by decide
theorem ir : Ieee.double.infRung = 9218868437227405312 := by decide
theorem lp : Ieee.double.leastPlace = -1074 := by decide
/-- What a word stands for, in least units; none: a NaN. -/
def key (a : Nat) : Option Int := match Ieee.double.read a with
  | .number s m p => some (Ieee.signed s m (p + 1074).toNat)
  | .infinity s => some (if s then -(2 ^ 3000) else 2 ^ 3000)
  | .nan _ _ => none
theorem read_number {a : Nat} {s : Bool} {m : Nat} {p : Int} (h : Ieee.double.read a = .number s m p) : -1074 ≤ p ∧ p ≤ 1000 ∧ m < 2 ^ 53 ∧ s = (a / 9223372036854775808 % 2 == 1) := by
  unfold Ieee.Format.read at h
  simp only [sw, bn, ir, lp] at h
  split at h
  · injection h with h1 h2 h3
    subst h1 h2 h3
    refine ⟨by omega, by omega, by omega, rfl⟩
  · split at h
    · injection h with h1 h2 h3
      subst h1 h2 h3
      refine ⟨by omega, by omega, by omega, rfl⟩
    · split at h <;> cases h
theorem read_inf {a : Nat} {s : Bool} (h : Ieee.double.read a = .infinity s) : s = (a / 9223372036854775808 % 2 == 1) := by
  unfold Ieee.Format.read at h
  simp only [sw, bn, ir, lp] at h
  split at h
  · cases h
  · split at h
    · cases h
    · split at h
      · injection h with h1
        exact h1.symm
      · cases h
theorem signed_eq (s : Bool) (m up : Nat) : Ieee.signed s m up = (if s then -1 else 1) * ((m : Int) * 2 ^ up) := by
  unfold Ieee.signed
  rw [Nat.shiftLeft_eq]
  cases s <;> simp
theorem signed_bound (s : Bool) (m up : Nat) (hm : m < 2 ^ 53) (hu : up ≤ 2100) : -(2 ^ 3000) < Ieee.signed s m up ∧ Ieee.signed s m up < 2 ^ 3000 := by
  have h1 : m * 2 ^ up < 2 ^ 3000 := by
    have h2 : 2 ^ up ≤ 2 ^ 2100 := Nat.pow_le_pow_right (by decide) hu
    have h3 : m * 2 ^ up ≤ 2 ^ 53 * 2 ^ 2100 := Nat.mul_le_mul (by omega) h2
    have h4 : 2 ^ 53 * 2 ^ 2100 < 2 ^ 3000 := by rw [← Nat.pow_add]; exact Nat.pow_lt_pow_right (by decide) (by decide)
    exact Nat.lt_of_le_of_lt h3 h4
  have h5 : ((m * 2 ^ up : Nat) : Int) < ((2 ^ 3000 : Nat) : Int) := Int.ofNat_lt.2 h1
  have e : ((2 ^ 3000 : Nat) : Int) = 2 ^ 3000 := Int.natCast_pow 2 3000
  rw [e] at h5
  unfold Ieee.signed
  rw [Nat.shiftLeft_eq]
  generalize hX : ((m * 2 ^ up : Nat) : Int) = X at *
  have h6 : 0 ≤ X := by rw [← hX]; exact Int.natCast_nonneg _
  generalize (2 : Int) ^ 3000 = Y at *
  cases s
  · simp only [Bool.false_eq_true, if_false]; omega
  · simp only [if_true]; omega
theorem compare_scale (x y : Int) (k : Nat) : compare (x * 2 ^ k) (y * 2 ^ k) = compare x y := by
  have hk : (0 : Int) < 2 ^ k := Int.pow_pos (by decide)
  rcases Int.lt_trichotomy x y with h | h | h
  · rw [Int.compare_eq_lt.2 h, Int.compare_eq_lt.2 (Int.mul_lt_mul_of_pos_right h hk)]
  · subst h; rw [Int.compare_eq_eq.2 rfl, Int.compare_eq_eq.2 rfl]
  · rw [Int.compare_eq_gt.2 h, Int.compare_eq_gt.2 (Int.mul_lt_mul_of_pos_right h hk)]
theorem signed_scale (s : Bool) (m u k : Nat) : Ieee.signed s m (u + k) = Ieee.signed s m u * 2 ^ k := by
  rw [signed_eq, signed_eq, Int.pow_add, Int.mul_assoc, Int.mul_assoc]
theorem ord_key (a b : Nat) : ord a b = match key a, key b with | some x, some y => some (compare x y) | _, _ => none := by
  show Ieee.double.order a b = _
  unfold key Ieee.Format.order
  cases ha : Ieee.double.read a with
  | nan s f => cases hb : Ieee.double.read b <;> rfl
  | infinity s =>
    cases hb : Ieee.double.read b with
    | nan t f => rfl
    | infinity t =>
      simp only [Ieee.Datum.order]
      cases s <;> cases t <;> decide +kernel
    | number t n j =>
      obtain ⟨h1, h2, h3, _⟩ := read_number hb
      have hbd := signed_bound t n (j + 1074).toNat h3 (by omega)
      simp only [Ieee.Datum.order]
      generalize Ieee.signed t n (j + 1074).toNat = X at *
      generalize (2 : Int) ^ 3000 = Y at *
      cases s
      · simp only [Bool.false_eq_true, if_false]; rw [Int.compare_eq_gt.2 hbd.2]
      · simp only [if_true]; rw [Int.compare_eq_lt.2 hbd.1]
  | number s m i =>
    cases hb : Ieee.double.read b with
    | nan t f => rfl
    | infinity t =>
      obtain ⟨h1, h2, h3, _⟩ := read_number ha
      have hbd := signed_bound s m (i + 1074).toNat h3 (by omega)
      simp only [Ieee.Datum.order]
      generalize Ieee.signed s m (i + 1074).toNat = X at *
      generalize (2 : Int) ^ 3000 = Y at *
      cases t
      · simp only [Bool.false_eq_true, if_false]; rw [Int.compare_eq_lt.2 hbd.2]
      · simp only [if_true]; rw [Int.compare_eq_gt.2 hbd.1]
    | number t n j =>
      obtain ⟨h1, h2, h3, _⟩ := read_number ha
      obtain ⟨h4, h5, h6, _⟩ := read_number hb
      simp only [Ieee.Datum.order]
      have e1 : (i + 1074).toNat = (i - min i j).toNat + (min i j + 1074).toNat := by omega
      have e2 : (j + 1074).toNat = (j - min i j).toNat + (min i j + 1074).toNat := by omega
      rw [e1, e2, signed_scale, signed_scale, compare_scale]
/-- By the sign bit: below nought, or not. -/
theorem key_sign {a : Nat} (h : a < 18446744073709551616) {x : Int} (hx : key a = some x) : if neg a then x ≤ 0 else 0 ≤ x := by
  unfold key at hx
  have hs : (a / 9223372036854775808 % 2 == 1) = neg a := by
    unfold neg
    by_cases c : 9223372036854775808 ≤ a
    · rw [decide_eq_true c]; simp; omega
    · rw [decide_eq_false c]; simp; omega
  have hp : (0 : Int) < 2 ^ 3000 := Int.pow_pos (by decide)
  generalize (2 : Int) ^ 3000 = Y at *
  cases hr : Ieee.double.read a with
  | nan s f => rw [hr] at hx; cases hx
  | infinity s =>
    rw [hr] at hx
    have := read_inf hr
    rw [hs] at this
    subst this
    simp only [Option.some.injEq] at hx
    cases hn : neg a <;> simp only [hn, Bool.false_eq_true, if_false, if_true] at hx ⊢ <;> omega
  | number s m p =>
    rw [hr] at hx
    have := (read_number hr).2.2.2
    rw [hs] at this
    subst this
    simp only [Option.some.injEq] at hx
    rw [signed_eq] at hx
    have hk : 0 ≤ (m : Int) * 2 ^ (p + 1074).toNat := Int.mul_nonneg (by omega) (Int.le_of_lt (Int.pow_pos (by decide)))
    generalize (m : Int) * 2 ^ (p + 1074).toNat = Z at *
    cases hn : neg a <;> simp only [hn, Bool.false_eq_true, if_false, if_true] at hx ⊢ <;> omega
end Go.Proofs.YtmenjcjpihpjjaaDoor.Fb
