/- Plain facts on words of floats: whole numbers times powers of two are exact; products and quotients of them. No program in sight. -/
import Derived.Test.YtmenjcjpihpjjaaDoorScale
set_option linter.unusedSimpArgs false
set_option linter.unusedVariables false
set_option exponentiation.threshold 5000
namespace Go.Proofs.YtmenjcjpihpjjaaDoor.Fb
open Go

/-- A word stands for w * 2 ^ t, w of at most 53 digits. -/
def IsNum (a w : Nat) (t : Int) : Prop := w ≠ 0 ∧ w < 2 ^ 53 ∧ Ieee.double.read a = .number false (w * 2 ^ (52 - w.log2)) (t + w.log2 - 52)

theorem log2_le {w : Nat} (h0 : w ≠ 0) (h : w < 2 ^ 53) : w.log2 ≤ 52 := by
  have := (Nat.log2_lt h0).2 h
  omega
theorem kept_bounds {w : Nat} (h0 : w ≠ 0) (h : w < 2 ^ 53) : 2 ^ 52 ≤ w * 2 ^ (52 - w.log2) ∧ w * 2 ^ (52 - w.log2) < 2 ^ 53 := by
  have hl := log2_le h0 h
  have h1 : 2 ^ w.log2 ≤ w := Nat.log2_self_le h0
  have h2 : w < 2 ^ (w.log2 + 1) := (Nat.log2_lt h0).1 (Nat.lt_succ_self _)
  have e1 : 2 ^ w.log2 * 2 ^ (52 - w.log2) = 2 ^ 52 := by rw [← Nat.pow_add]; congr 1; omega
  have e2 : 2 ^ (w.log2 + 1) * 2 ^ (52 - w.log2) = 2 ^ 53 := by rw [← Nat.pow_add]; congr 1; omega
  have hp : 0 < 2 ^ (52 - w.log2) := Nat.two_pow_pos _
  constructor
  · rw [← e1]; exact Nat.mul_le_mul_right _ h1
  · rw [← e2]; exact Nat.mul_lt_mul_of_pos_right h2 hp
theorem log2_shift {w : Nat} (h0 : w ≠ 0) (k : Nat) : (w * 2 ^ k).log2 = w.log2 + k := by
  have hp : 0 < 2 ^ k := Nat.two_pow_pos _
  have hne : w * 2 ^ k ≠ 0 := Nat.mul_ne_zero h0 (by omega)
  have h1 : 2 ^ w.log2 ≤ w := Nat.log2_self_le h0
  have h2 : w < 2 ^ (w.log2 + 1) := (Nat.log2_lt h0).1 (Nat.lt_succ_self _)
  have a1 : (w * 2 ^ k).log2 < w.log2 + k + 1 := (Nat.log2_lt hne).2 (by
    rw [show w.log2 + k + 1 = w.log2 + 1 + k by omega, Nat.pow_add]
    exact Nat.mul_lt_mul_of_pos_right h2 hp)
  have a2 : w.log2 + k ≤ (w * 2 ^ k).log2 := (Nat.le_log2 hne).2 (by
    rw [Nat.pow_add]
    exact Nat.mul_le_mul_right _ h1)
  omega
theorem cut_exact (s : Bool) (n d : Nat) (h : d ≤ (n * 2 ^ d).log2 + 2) : Ieee.Toward.even.cut s (n * 2 ^ d) d = n := by
  unfold Ieee.Toward.cut
  rw [Nat.min_eq_left h, Nat.shiftLeft_eq, Nat.one_mul]
  have hp : 0 < 2 ^ d := Nat.two_pow_pos _
  have e1 := Nat.mul_div_cancel n hp
  have e2 := Nat.mul_mod_left (2 ^ d) n
  simp only [Nat.mul_comm n (2 ^ d), Nat.mul_mod_right, Nat.mul_zero]
  rw [show (2 ^ d == 0) = false by simp]
  simp only [Nat.not_lt_zero, decide_false, Bool.false_and, Bool.or_false, Bool.toNat_false, Nat.add_zero]
  rw [Nat.mul_comm]
  exact e1
theorem nearest_exact {w k : Nat} {p t : Int} (h0 : w ≠ 0) (h : w < 2 ^ 53) (ht : t = p + k) (hlo : -500 ≤ t) (hhi : t ≤ 500) :
    Ieee.double.nearest false (w * 2 ^ k) p = (t + w.log2 - 52 + 1074).toNat * 4503599627370496 + w * 2 ^ (52 - w.log2) := by
  have hl := log2_le h0 h
  have hb := kept_bounds h0 h
  have hp : 0 < 2 ^ k := Nat.two_pow_pos _
  have hne : w * 2 ^ k ≠ 0 := Nat.mul_ne_zero h0 (by omega)
  unfold Ieee.Format.nearest
  rw [if_neg hne, log2_shift h0]
  have hlast : max (p + ((w.log2 + k : Nat) : Int) - (Ieee.double.fractionBits : Nat)) Ieee.double.leastPlace = t + w.log2 - 52 := by
    rw [lp]
    show max (p + ((w.log2 + k : Nat) : Int) - (52 : Nat)) (-1074) = _
    omega
  simp only [hlast]
  have hkept : Ieee.Toward.even.cut false ((w * 2 ^ k) <<< (p - (t + w.log2 - 52)).toNat) (t + w.log2 - 52 - p).toNat = w * 2 ^ (52 - w.log2) := by
    rw [Nat.shiftLeft_eq]
    by_cases c : k + w.log2 ≤ 52
    · rw [show (t + (w.log2 : Int) - 52 - p).toNat = 0 by omega, show (p - (t + (w.log2 : Int) - 52)).toNat = 52 - w.log2 - k by omega]
      have e : w * 2 ^ k * 2 ^ (52 - w.log2 - k) = w * 2 ^ (52 - w.log2) * 2 ^ 0 := by
        rw [Nat.mul_assoc, ← Nat.pow_add, Nat.pow_zero, Nat.mul_one]
        congr 2
        omega
      rw [e]
      exact cut_exact _ _ _ (by omega)
    · rw [show (p - (t + (w.log2 : Int) - 52)).toNat = 0 by omega, Nat.pow_zero, Nat.mul_one, show (t + (w.log2 : Int) - 52 - p).toNat = k - (52 - w.log2) by omega]
      have e : w * 2 ^ k = w * 2 ^ (52 - w.log2) * 2 ^ (k - (52 - w.log2)) := by
        rw [Nat.mul_assoc, ← Nat.pow_add]
        congr 2
        omega
      rw [e]
      refine cut_exact _ _ _ ?_
      rw [← e, log2_shift h0]
      omega
  rw [hkept, lp, bn, ir]
  unfold Ieee.Format.word
  rw [if_neg (by simp)]
  rw [show t + (w.log2 : Int) - 52 - -1074 = t + w.log2 - 52 + 1074 by omega]
  apply Nat.min_eq_left
  have : (t + (w.log2 : Int) - 52 + 1074).toNat ≤ 1600 := by omega
  omega
theorem read_exact {w : Nat} {t : Int} (h0 : w ≠ 0) (h : w < 2 ^ 53) (hlo : -500 ≤ t) (hhi : t ≤ 500) :
    Ieee.double.read ((t + w.log2 - 52 + 1074).toNat * 4503599627370496 + w * 2 ^ (52 - w.log2)) = .number false (w * 2 ^ (52 - w.log2)) (t + w.log2 - 52) := by
  have hl := log2_le h0 h
  obtain ⟨b1, b2⟩ := kept_bounds h0 h
  have c1 : (t + (w.log2 : Int) - 52 + 1074).toNat ≤ 1600 := by omega
  have c2 : 1 ≤ (t + (w.log2 : Int) - 52 + 1074).toNat := by omega
  have c3 : (((t + (w.log2 : Int) - 52 + 1074).toNat : Nat) : Int) = t + (w.log2 : Int) - 52 + 1074 := by omega
  generalize (t + (w.log2 : Int) - 52 + 1074).toNat = T at *
  generalize w * 2 ^ (52 - w.log2) = K at *
  generalize (w.log2 : Int) = L at *
  have hmod : (T * 4503599627370496 + K) % 9223372036854775808 = T * 4503599627370496 + K := by omega
  have hneg : ((T * 4503599627370496 + K) / 9223372036854775808 % 2 == 1) = false := by
    rw [show (T * 4503599627370496 + K) / 9223372036854775808 = 0 by omega]; rfl
  unfold Ieee.Format.read
  simp only [sw, bn, ir, lp, hmod, hneg]
  rw [if_neg (by omega), if_pos (by omega)]
  congr 1
  · omega
  · have : (T * 4503599627370496 + K) / 4503599627370496 = T + 1 := by omega
    rw [this]; omega
theorem isNum_nearest {w k : Nat} {p t : Int} (h0 : w ≠ 0) (h : w < 2 ^ 53) (ht : t = p + k) (hlo : -500 ≤ t) (hhi : t ≤ 500) : IsNum (Ieee.double.nearest false (w * 2 ^ k) p) w t :=
  ⟨h0, h, by rw [nearest_exact h0 h ht hlo hhi, read_exact h0 h hlo hhi]⟩
theorem isNum_int {v : Nat} (h0 : v ≠ 0) (h : v < 2 ^ 53) : IsNum (floatOfInt .f64 v) v 0 := by
  have := isNum_nearest (k := 0) (p := 0) (t := 0) h0 h rfl (by decide) (by decide)
  rw [Nat.pow_zero, Nat.mul_one] at this
  have e : floatOfInt .f64 (v : Int) = Ieee.double.nearest false v 0 := by
    show Ieee.double.nearest (decide ((v : Int) < 0)) (v : Int).natAbs 0 = _
    rw [show decide ((v : Int) < 0) = false by simp, Int.natAbs_natCast]
  rw [e]; exact this
theorem isNum_two {a w : Nat} {t : Int} (h : IsNum a (2 * w) t) : IsNum a w (t + 1) := by
  obtain ⟨h0, h1, h2⟩ := h
  have hw : w ≠ 0 := by omega
  have hl : (2 * w).log2 = w.log2 + 1 := by
    have := log2_shift hw 1
    rw [Nat.pow_one, Nat.mul_comm] at this
    exact this
  have hle := log2_le h0 h1
  rw [hl] at h2 hle
  refine ⟨hw, by omega, h2.trans ?_⟩
  congr 1
  · rw [show 52 - w.log2 = 1 + (52 - (w.log2 + 1)) by omega, Nat.pow_add, Nat.pow_one]
    rw [← Nat.mul_assoc, Nat.mul_comm w 2]
  · omega
theorem isNum_mul {a b v u : Nat} {s t : Int} (ha : IsNum a v s) (hb : IsNum b u t) (h : v * u < 2 ^ 53) (hlo : -500 ≤ s + t) (hhi : s + t ≤ 500) :
    ∃ r, Ieee.double.mul a b = some r ∧ IsNum r (v * u) (s + t) := by
  obtain ⟨a0, a1, a2⟩ := ha
  obtain ⟨b0, b1, b2⟩ := hb
  have la := log2_le a0 a1
  have lb := log2_le b0 b1
  have hne : v * u ≠ 0 := Nat.mul_ne_zero a0 b0
  unfold Ieee.Format.mul
  rw [a2, b2]
  refine ⟨_, rfl, ?_⟩
  show IsNum (Ieee.double.nearest false (v * 2 ^ (52 - v.log2) * (u * 2 ^ (52 - u.log2))) _) _ _
  have e : v * 2 ^ (52 - v.log2) * (u * 2 ^ (52 - u.log2)) = v * u * 2 ^ ((52 - v.log2) + (52 - u.log2)) := by
    rw [Nat.pow_add]; ac_rfl
  rw [e]
  exact isNum_nearest hne h (by omega) hlo hhi
theorem isNum_div {a b v u : Nat} {s t : Int} (ha : IsNum a (v * u) s) (hb : IsNum b u t) (hlo : -500 ≤ s - t) (hhi : s - t ≤ 500) :
    ∃ r, Ieee.double.div a b = some r ∧ IsNum r v (s - t) := by
  obtain ⟨a0, a1, a2⟩ := ha
  obtain ⟨b0, b1, b2⟩ := hb
  have la := log2_le a0 a1
  have lb := log2_le b0 b1
  have hv : v ≠ 0 := by rintro rfl; simp at a0
  have hup : 0 < u := by omega
  have hvv : v < 2 ^ 53 := Nat.lt_of_le_of_lt (Nat.le_mul_of_pos_right v hup) a1
  unfold Ieee.Format.div
  rw [a2, b2]
  simp only [Ieee.Datum.quotient]
  have hn0 : u * 2 ^ (52 - u.log2) ≠ 0 := Nat.mul_ne_zero b0 (by have := Nat.two_pow_pos (52 - u.log2); omega)
  rw [if_neg hn0, log2_shift b0, log2_shift a0]
  rw [show Ieee.double.fractionBits + 2 + (u.log2 + (52 - u.log2)) - ((v * u).log2 + (52 - (v * u).log2)) = 54 by
    show 52 + 2 + (u.log2 + (52 - u.log2)) - ((v * u).log2 + (52 - (v * u).log2)) = 54
    omega]
  rw [Nat.shiftLeft_eq]
  have e : v * u * 2 ^ (52 - (v * u).log2) * 2 ^ 54 = v * 2 ^ (54 + (52 - (v * u).log2) - (52 - u.log2)) * (u * 2 ^ (52 - u.log2)) := by
    have : 2 ^ (52 - (v * u).log2) * 2 ^ 54 = 2 ^ (54 + (52 - (v * u).log2) - (52 - u.log2)) * 2 ^ (52 - u.log2) := by
      rw [← Nat.pow_add, ← Nat.pow_add]; congr 1; omega
    calc v * u * 2 ^ (52 - (v * u).log2) * 2 ^ 54 = v * u * (2 ^ (52 - (v * u).log2) * 2 ^ 54) := by ac_rfl
      _ = _ := by rw [this]; ac_rfl
  rw [e, Nat.mul_div_cancel _ (by omega), Nat.mul_mod_left]
  refine ⟨_, rfl, ?_⟩
  show IsNum (Ieee.double.nearest false (2 * (v * 2 ^ (54 + (52 - (v * u).log2) - (52 - u.log2))) + 0) _) _ _
  have e2 : 2 * (v * 2 ^ (54 + (52 - (v * u).log2) - (52 - u.log2))) + 0 = v * 2 ^ (54 + (52 - (v * u).log2) - (52 - u.log2) + 1) := by
    rw [Nat.pow_succ]; simp only [Nat.add_zero]; ac_rfl
  rw [e2]
  exact isNum_nearest hv hvv (by omega) hlo hhi

end Go.Proofs.YtmenjcjpihpjjaaDoor.Fb
