/- Plain facts for the last laws of chapter 3: what texts of a known form come to; when two powers are one word; the other sign. No program in sight. -/
import Derived.Test.YtmenjcjpihpjjaaDigs
set_option linter.unusedSimpArgs false
set_option linter.unusedVariables false
set_option exponentiation.threshold 5000
namespace Go.Proofs.Ytmenjcjpihpjjaa.Fb
open Go

theorem isNum_word {a w : Nat} {t : Int} (h : IsNum a w t) (ha : a < 18446744073709551616) : (a : Int) = (t + w.log2 - 52 + 1074) * 4503599627370496 + (w * 2 ^ (52 - w.log2) : Nat) := by
  obtain ⟨h0, h1, h2⟩ := h
  obtain ⟨b1, b2⟩ := kept_bounds h0 h1
  generalize w * 2 ^ (52 - w.log2) = K at *
  generalize (w.log2 : Int) = L at *
  unfold Ieee.Format.read at h2
  simp only [sw, bn, ir, lp] at h2
  split at h2
  · injection h2 with e1 e2 e3
    omega
  · split at h2
    · injection h2 with e1 e2 e3
      have e4 : ¬ a / 9223372036854775808 % 2 = 1 := by simpa using e1
      omega
    · split at h2 <;> cases h2
theorem isNum_eq {a b w : Nat} {t : Int} (h : IsNum a w t) (g : IsNum b w t) (ha : a < 18446744073709551616) (hb : b < 18446744073709551616) : a = b := by
  have h1 := isNum_word h ha
  have h2 := isNum_word g hb
  omega
theorem pw_word : ∀ k, k < 23 → 5 ^ k ≠ 0 ∧ 5 ^ k < 2 ^ 53 ∧ Ieee.double.read (pw k) = .number false (5 ^ k * 2 ^ (52 - (5 ^ k).log2)) ((k : Nat) + (5 ^ k).log2 - 52) := by decide +kernel
theorem isNum_pw {k : Nat} (h : k < 23) : IsNum (pw k) (5 ^ k) k := pw_word k h
theorem lt_of_scale {m e : Int} {r : Nat} (h : scaleF m e = some r) : r < 18446744073709551616 := by
  unfold scaleF at h
  split at h
  · exact Ieee.Format.div_lt _ h
  · exact Ieee.Format.mul_lt _ h
theorem lt_of_int (m : Int) : floatOfInt .f64 m < 18446744073709551616 := Ieee.Format.nearest_lt _ _ _ _
/-- A whole number times a power of ten. -/
theorem scale_up {n k : Nat} (h0 : n ≠ 0) (hk : k < 23) (h : n * 5 ^ k < 2 ^ 53) : ∃ r, scaleF (n : Nat) (k : Nat) = some r ∧ IsNum r (n * 5 ^ k) k := by
  have h1 : n < 2 ^ 53 := Nat.lt_of_le_of_lt (Nat.le_mul_of_pos_right n (Nat.pow_pos (by decide))) h
  obtain ⟨r, h2, h3⟩ := isNum_mul (isNum_int h0 h1) (isNum_pw hk) h (by omega) (by omega)
  refine ⟨r, ?_, by simpa using h3⟩
  unfold scaleF
  rw [if_neg (by omega)]
  exact h2
theorem scale_ten {n : Nat} (h0 : n ≠ 0) (h : n < 100000000000) : ∃ r, scaleF ((10 * n : Nat) : Int) (-1) = some r ∧ IsNum r n 0 := by
  have h5 := isNum_two (a := floatOfInt .f64 ((10 * n : Nat) : Int)) (w := n * 5) (t := 0) (by
    rw [show 2 * (n * 5) = 10 * n by omega]
    exact isNum_int (by omega) (by omega))
  obtain ⟨r, h2, h3⟩ := isNum_div (v := n) (u := 5) h5 (isNum_pw (k := 1) (by decide)) (by decide) (by decide)
  refine ⟨r, ?_, h3⟩
  unfold scaleF
  rw [if_pos (by decide)]
  exact h2
/-- A whole number, as it is, or with a nought behind the point. -/
theorem scale_whole (n : Nat) (h : n < 100000000000) : scaleF (n : Nat) 0 = some (floatOfInt .f64 (n : Nat)) ∧ scaleF ((10 * n : Nat) : Int) (-1) = some (floatOfInt .f64 (n : Nat)) := by
  by_cases h0 : n = 0
  · subst h0; decide +kernel
  · have g := isNum_int (v := n) h0 (by omega)
    obtain ⟨r, h1, h2⟩ := scale_up (k := 0) h0 (by decide) (by simp; omega)
    obtain ⟨q, h3, h4⟩ := scale_ten h0 h
    rw [Nat.pow_zero, Nat.mul_one] at h2
    have e1 := isNum_eq h2 g (lt_of_scale h1) (lt_of_int _)
    have e2 := isNum_eq h4 g (lt_of_scale h3) (lt_of_int _)
    subst e1
    exact ⟨h1, by rw [h3, e2]⟩
theorem digN_append {a b : List UInt8} (ha : AllDig a) (hb : b = [] ∨ ∃ c t, b = c :: t ∧ ¬ isDig c = true) : digN (a ++ b) = a.length := by
  induction a with
  | nil =>
    rcases hb with rfl | ⟨c, t, rfl, hc⟩
    · rfl
    · rw [List.nil_append, digN, if_neg hc]; rfl
  | cons c a ih =>
    rw [List.cons_append, digN, if_pos (ha c (by simp)), ih (fun d hd => ha d (by simp [hd]))]
    rfl
/-- What a number without a sign is: its digits, how many of them behind the point, its exponent. -/
def formF (all : List UInt8) (k : Nat) (x : Int × Bool) : Option Nat :=
  if x.2 = true ∧ all ≠ [] ∧ all.length ≤ 15 ∧ -22 ≤ x.1 - k ∧ x.1 - k ≤ 22 then scaleF (wholeI all) (x.1 - k) else none
def NoDig (x : List UInt8) : Prop := x = [] ∨ ∃ c t, x = c :: t ∧ ¬ isDig c = true
theorem plain_dot {a b x : List UInt8} (ha : AllDig a) (hb : AllDig b) (hx : NoDig x) : plainL (a ++ 46 :: (b ++ x)) = formF (a ++ b) b.length (expL x) := by
  have h1 : digN (a ++ 46 :: (b ++ x)) = a.length := digN_append ha (.inr ⟨_, _, rfl, by decide⟩)
  have h2 : digN (b ++ x) = b.length := digN_append hb hx
  have h3 : (a ++ 46 :: (b ++ x)).drop a.length = 46 :: (b ++ x) := by simp
  have h4 : (a ++ 46 :: (b ++ x)).take a.length = a := by simp
  have h5 : pointL (46 :: (b ++ x)) = (b, x) := by
    unfold pointL
    have e0 : Lib.hasPrefix (46 :: (b ++ x)) [46] = true := rfl
    have e1 : Lib.trimPrefix (46 :: (b ++ x)) [46] = b ++ x := rfl
    rw [e0, e1, h2, if_pos rfl]
    simp
  unfold plainL formF
  simp only [h1, h3, h4, h5]
theorem plain_bare {a x : List UInt8} (ha : AllDig a) (hx : x = [] ∨ ∃ c t, x = c :: t ∧ ¬ isDig c = true ∧ c ≠ 46) : plainL (a ++ x) = formF a 0 (expL x) := by
  have h1 : digN (a ++ x) = a.length := digN_append ha (hx.imp id (fun ⟨c, t, h, g, _⟩ => ⟨c, t, h, g⟩))
  have h3 : (a ++ x).drop a.length = x := by simp
  have h4 : (a ++ x).take a.length = a := by simp
  have h5 : pointL x = ([], x) := by
    unfold pointL
    rcases hx with rfl | ⟨c, t, rfl, _, hc⟩
    · rfl
    · have e1 : Lib.hasPrefix (c :: t) [46] = false := by simp [Lib.hasPrefix, List.isPrefixOf]; intro h; exact hc h.symm
      rw [e1]; rfl
  unfold plainL formF
  simp only [h1, h3, h4, h5, List.append_nil, List.length_nil]
theorem expL_of {c : UInt8} {t x : List UInt8} {y : Bool} (hc : c = 101 ∨ c = 69) (ht : signR t = (y, x)) (h0 : x ≠ []) (hd : AllDig x) (hl : x.length ≤ 3) :
    expL (c :: t) = (if y = true then -wholeI x else wholeI x, true) := by
  have h1 : (c.toNat : Int) = 101 ∨ (c.toNat : Int) = 69 := by rcases hc with rfl | rfl <;> simp
  have h2 : digN x = x.length := by
    have := digN_append (b := []) hd (.inl rfl)
    rwa [List.append_nil] at this
  rw [expL, if_pos h1, sign_eq, ht]
  simp only
  rw [if_neg]
  rintro (h | h | h)
  · exact h0 h
  · omega
  · exact h h2
theorem signR_dig {x : List UInt8} (hd : AllDig x) : signR x = (false, x) := by
  rcases x with _ | ⟨c, t⟩
  · rfl
  · have h := isDig_range (hd c (by simp))
    rw [signR, if_neg, if_neg]
    · rintro rfl; simp at h
    · rintro rfl; simp at h
/-- A text without a sign that begins with no letter. -/
theorem parse_plain {l : List UInt8} (h : signR l = (false, l)) (hd : ∀ c t, l = c :: t → c ≠ 78 ∧ c ≠ 73) : parseL l = plainL l := by
  unfold parseL
  rw [sign_eq, h]
  simp only
  rw [if_neg, if_neg]
  · cases plainL l <;> simp
  · rintro rfl; exact (hd _ _ rfl).2 rfl
  · rintro rfl; exact (hd _ _ rfl).1 rfl
theorem parse_plus (l : List UInt8) : parseL (43 :: l) = if l = [73, 78, 70] then some 9218868437227405312 else plainL l := by
  unfold parseL
  rw [sign_eq, show signR (43 :: l) = (false, l) by simp [signR]]
  simp only
  rw [if_neg (fun h : (43 : UInt8) :: l = [78, 97, 78] => absurd (List.cons.inj h).1 (by decide))]
  cases (if l = [73, 78, 70] then some 9218868437227405312 else plainL l) <;> simp
theorem parse_minus (l : List UInt8) : parseL (45 :: l) = (parseL (43 :: l)).map negF := by
  rw [parse_plus]
  unfold parseL
  rw [sign_eq, show signR (45 :: l) = (true, l) by simp [signR]]
  simp only
  rw [if_neg (fun h : (45 : UInt8) :: l = [78, 97, 78] => absurd (List.cons.inj h).1 (by decide))]
  cases (if l = [73, 78, 70] then some 9218868437227405312 else plainL l) <;> simp
theorem plus_le {l : List UInt8} {r : Nat} (h : parseL (43 :: l) = some r) : r ≤ 9218868437227405312 := by
  rw [parse_plus] at h
  split at h
  · injection h with h; omega
  · exact plain_le h
/-- The other sign: the other number. -/
theorem read_neg {a : Nat} (h : a < 9223372036854775808) : Ieee.double.read (negF a) = (Ieee.double.read a).opposite := by
  rw [negF_add a h]
  have h1 : ((a + 9223372036854775808) / 9223372036854775808 % 2 == 1) = true := by rw [show (a + 9223372036854775808) / 9223372036854775808 = 1 by omega]; rfl
  have h2 : (a / 9223372036854775808 % 2 == 1) = false := by rw [show a / 9223372036854775808 = 0 by omega]; rfl
  have h3 : (a + 9223372036854775808) % 9223372036854775808 = a := by omega
  have h4 : a % 9223372036854775808 = a := by omega
  unfold Ieee.Format.read
  simp only [sw, bn, ir, lp, h1, h2, h3, h4]
  split
  · rfl
  · split
    · rfl
    · split <;> rfl
theorem key_neg {a : Nat} (h : a < 9223372036854775808) : key (negF a) = (key a).map Neg.neg := by
  unfold key
  rw [read_neg h]
  cases Ieee.double.read a with
  | nan s f => rfl
  | infinity s => cases s <;> simp [Ieee.Datum.opposite]
  | number s m p => cases s <;> simp [Ieee.Datum.opposite, Ieee.signed]
theorem key_le {a : Nat} (h : a ≤ 9218868437227405312) : ∃ x, key a = some x := by
  unfold key
  rcases read_of_le h with ⟨m, p, h1⟩ | h1 <;> rw [h1] <;> exact ⟨_, rfl⟩
theorem ordK_neg {a b : Nat} (ha : a ≤ 9218868437227405312) (hb : b ≤ 9218868437227405312) : ordK (negF a) (negF b) = -ordK a b := by
  obtain ⟨x, hx⟩ := key_le ha
  obtain ⟨y, hy⟩ := key_le hb
  have e1 : key (negF a) = some (-x) := by rw [key_neg (by omega), hx]; rfl
  have e2 : key (negF b) = some (-y) := by rw [key_neg (by omega), hy]; rfl
  have s1 : sgn (negF a) = 0 := by unfold sgn neg; rw [negF_add a (by omega)]; simp
  have s2 : sgn (negF b) = 0 := by unfold sgn neg; rw [negF_add b (by omega)]; simp
  have s3 : sgn a = 1 := by unfold sgn neg; rw [if_neg]; simp; omega
  have s4 : sgn b = 1 := by unfold sgn neg; rw [if_neg]; simp; omega
  unfold ordK
  rw [e1, e2, hx, hy, s1, s2, s3, s4]
  simp only
  rcases Int.lt_trichotomy x y with h | h | h
  · rw [if_neg (by omega), if_pos (by omega), if_pos h]; rfl
  · subst h; simp
  · rw [if_pos (by omega), if_neg (by omega), if_pos h]
end Go.Proofs.Ytmenjcjpihpjjaa.Fb
