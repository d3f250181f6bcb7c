/- Plain facts: a whole number of few digits, times or by a power of ten, is a float without a sign bit. No program in sight. (under way) -/
import Derived.Test.YtmenjcjpihpjjaaDoorScale
set_option linter.unusedSimpArgs false
set_option linter.unusedVariables false
set_option exponentiation.threshold 5000
namespace Go.Proofs.YtmenjcjpihpjjaaDoor.Fb
open Go

theorem nearest_le (m : Nat) (p : Int) : Ieee.double.nearest false m p ≤ 9218868437227405312 := by
  unfold Ieee.Format.nearest Ieee.Format.word
  simp only [ir]
  split
  · simp
  · simp only [Bool.false_eq_true, if_false]
    exact Nat.min_le_right _ _
theorem read_of_le {a : Nat} (h : a ≤ 9218868437227405312) : (∃ m p, Ieee.double.read a = .number false m p) ∨ Ieee.double.read a = .infinity false := by
  unfold Ieee.Format.read
  simp only [sw, bn, ir, lp]
  have h1 : (a / 9223372036854775808 % 2 == 1) = false := by simp; omega
  rw [h1]
  split
  · exact .inl ⟨_, _, rfl⟩
  · split
    · exact .inl ⟨_, _, rfl⟩
    · split
      · exact .inr rfl
      · omega
def posNum : Ieee.Datum → Bool
  | .number false m _ => m != 0
  | _ => false
theorem pw_pos : ∀ n, n < 23 → posNum (Ieee.double.read (pw n)) = true := by decide +kernel
theorem pw_numbers (n : Nat) (h : n < 23) : ∃ m, m ≠ 0 ∧ ∃ p, Ieee.double.read (pw n) = .number false m p := by
  have h1 := pw_pos n h
  generalize Ieee.double.read (pw n) = d at h1
  cases d with
  | number s m p =>
    cases s
    · exact ⟨m, by simpa [posNum] using h1, p, rfl⟩
    · cases h1
  | infinity s => cases h1
  | nan s f => cases h1
/-- The least rungs are numbers: a word of a whole number below 2^53 is no infinity. -/
theorem ofInt_read (m : Int) (h0 : 0 ≤ m) : ∃ a, floatOfInt .f64 m = a ∧ a ≤ 9218868437227405312 := ⟨_, rfl, by
  show Ieee.double.nearest (decide (m < 0)) m.natAbs 0 ≤ _
  rw [show decide (m < 0) = false by simp; omega]
  exact nearest_le _ _⟩
end Go.Proofs.YtmenjcjpihpjjaaDoor.Fb
