/- The walk of the law DoubleTens. -/
import Derived.Test.YtmenjcjpihpjjaaLawWholes
set_option linter.unusedSimpArgs false
set_option linter.unusedVariables false
namespace Go.Proofs.Ytmenjcjpihpjjaa.Fb
open Go Go.RowKit Go.Proofs.YtmenjcjpihpjjaaW.PrintWords Go.Proofs.YtmenjcjpihpjjaaW.PrintLast Go.Proofs.YtmenjcjpihpjjaaW.PrintMore
attribute [local go_sem] max2_int min2_int max_two min_two
attribute [local go_sem] run_from run_bits run_neg

theorem pow_small : ∀ e, e < 14 → 1000 * 5 ^ e < 2 ^ 53 := by decide
theorem tens_pow (n e : Nat) (hn : n ≤ 1000) (he : e < 14) : n * 5 ^ e < 2 ^ 53 := Nat.lt_of_le_of_lt (Nat.mul_le_mul_right _ hn) (pow_small e he)
theorem exp_dec (e : Nat) (he : e < 100) (y : UInt8) (hy : y = 101 ∨ y = 69) : expL (y :: decL e) = ((e : Int), true) ∧ expL (y :: 43 :: decL e) = ((e : Int), true) := by
  obtain ⟨h1, h2, h3⟩ := decL_dig e
  have hl := decL_len 1 e (by omega)
  constructor
  · rw [expL_of hy (signR_dig h1) h3 h1 (by omega), h2]; rfl
  · rw [expL_of hy (show signR (43 :: decL e) = (false, decL e) by simp [signR]) h3 h1 (by omega), h2]; rfl
/-- The three texts. -/
theorem tens_x (n e : Nat) (h0 : n ≠ 0) (hn : n ≤ 1000) (he : e ≤ 12) : ∃ r, parseL (decL n ++ 101 :: decL e) = some r ∧ IsNum r (n * 5 ^ e) e ∧ r < 18446744073709551616 := by
  obtain ⟨h1, h2, h3⟩ := decL_dig n
  have hl := decL_len 3 n (by omega)
  obtain ⟨r, g1, g2⟩ := scale_up (k := e) h0 (by omega) (tens_pow n e hn (by omega))
  have p := plain_bare h1 (x := 101 :: decL e) (.inr ⟨_, _, rfl, by decide, by decide⟩)
  rw [(exp_dec e (by omega) 101 (.inl rfl)).1] at p
  refine ⟨r, ?_, g2, lt_of_scale g1⟩
  rw [parse_dec, p, form_some (m := n) (e := e) rfl h3 (by omega) (by simp) (by omega) (by omega) h2]
  exact g1
theorem tens_y (n e : Nat) (h0 : n ≠ 0) (hn : n ≤ 1000) (he : e ≤ 12) : ∃ r, parseL (decL n ++ 69 :: 43 :: decL (e + 1)) = some r ∧ IsNum r (n * 5 ^ (e + 1)) ((e + 1 : Nat) : Int) ∧ r < 18446744073709551616 := by
  obtain ⟨h1, h2, h3⟩ := decL_dig n
  have hl := decL_len 3 n (by omega)
  obtain ⟨r, g1, g2⟩ := scale_up (k := e + 1) h0 (by omega) (tens_pow n (e + 1) hn (by omega))
  have p := plain_bare h1 (x := 69 :: 43 :: decL (e + 1)) (.inr ⟨_, _, rfl, by decide, by decide⟩)
  rw [(exp_dec (e + 1) (by omega) 69 (.inr rfl)).2] at p
  refine ⟨r, ?_, g2, lt_of_scale g1⟩
  rw [parse_dec, p, form_some (m := n) (e := ((e + 1 : Nat) : Int)) rfl h3 (by omega) (by simp) (by omega) (by omega) h2]
  exact g1
theorem tens_z (n e : Nat) (h0 : n ≠ 0) (hn : n ≤ 1000) (he : e ≤ 12) : ∃ r, parseL (decL n ++ 46 :: ([48] ++ 101 :: decL e)) = some r ∧ IsNum r (n * 5 ^ e) e ∧ r < 18446744073709551616 := by
  obtain ⟨h1, h2, h3⟩ := decL_dig n
  have hl := decL_len 3 n (by omega)
  have p := plain_dot h1 (b := [48]) (x := 101 :: decL e) (fun c hc => by rw [List.mem_singleton] at hc; subst hc; decide) (.inr ⟨_, _, rfl, by decide⟩)
  rw [(exp_dec e (by omega) 101 (.inl rfl)).1] at p
  have hr : ∃ r, scaleF ((10 * n : Nat) : Int) ((e : Int) - 1) = some r ∧ IsNum r (n * 5 ^ e) e := by
    cases e with
    | zero =>
      obtain ⟨r, g1, g2⟩ := scale_ten h0 (by omega)
      exact ⟨r, g1, by simpa using g2⟩
    | succ e =>
      have hb := tens_pow n (e + 1) hn (by omega)
      have e1 : 10 * n * 5 ^ e = 2 * (n * 5 ^ (e + 1)) := by rw [Nat.pow_succ]; generalize 5 ^ e = q; rw [show n * (q * 5) = n * q * 5 by rw [Nat.mul_assoc], show 10 * n * q = 10 * (n * q) by rw [Nat.mul_assoc]]; omega
      have hb2 : 10 * n * 5 ^ e < 2 ^ 53 := by
        rw [e1]
        have := Nat.mul_le_mul_right (5 ^ (e + 1)) hn
        have h3 : ∀ e, e < 14 → 2 * (1000 * 5 ^ e) < 2 ^ 53 := by decide
        have := h3 (e + 1) (by omega)
        omega
      obtain ⟨r, g1, g2⟩ := scale_up (n := 10 * n) (k := e) (by omega) (by omega) hb2
      refine ⟨r, ?_, ?_⟩
      · rw [show (((e + 1 : Nat) : Int) - 1) = (e : Nat) by omega]; exact g1
      · rw [e1] at g2
        have := isNum_two g2
        rwa [show ((e : Nat) : Int) + 1 = ((e + 1 : Nat) : Int) by omega] at this
  obtain ⟨r, g1, g2⟩ := hr
  refine ⟨r, ?_, g2, lt_of_scale g1⟩
  rw [parse_dec, p, form_some (m := ((10 * n : Nat) : Int)) (e := (e : Int) - 1) rfl (app_ne h3) (by rw [List.length_append]; simp; omega) (by simp) (by omega) (by omega) (by rw [whole_app_zero, h2]; omega)]
  exact g1
/-- Ten times the first is the second, the third is the first. -/
theorem tens_all (n e : Nat) (h0 : n ≠ 0) (hn : n ≤ 1000) (he : e ≤ 12) : ∃ x y, parseL (decL n ++ 101 :: decL e) = some x ∧ parseL (decL n ++ 69 :: 43 :: decL (e + 1)) = some y ∧ parseL (decL n ++ 46 :: ([48] ++ 101 :: decL e)) = some x ∧
    Ieee.double.mul 4621819117588971520 x = some y ∧ nan x = false ∧ nan y = false := by
  obtain ⟨x, x1, x2, x3⟩ := tens_x n e h0 hn he
  obtain ⟨y, y1, y2, y3⟩ := tens_y n e h0 hn he
  obtain ⟨z, z1, z2, z3⟩ := tens_z n e h0 hn he
  have hz : z = x := isNum_eq z2 x2 z3 x3
  subst hz
  have ten : IsNum 4621819117588971520 5 1 := isNum_pw (k := 1) (by decide)
  obtain ⟨q, q1, q2⟩ := isNum_mul ten x2 (by rw [show 5 * (n * 5 ^ e) = n * 5 ^ (e + 1) by rw [Nat.pow_succ]; ac_rfl]; exact tens_pow n (e + 1) hn (by omega)) (by omega) (by omega)
  have hq : q = y := by
    refine isNum_eq q2 ?_ (Ieee.Format.mul_lt _ q1) y3
    rw [show 5 * (n * 5 ^ e) = n * 5 ^ (e + 1) by rw [Nat.pow_succ]; ac_rfl, show (1 : Int) + (e : Nat) = ((e + 1 : Nat) : Int) by omega]
    exact y2
  subst hq
  have nn : ∀ {a w : Nat} {t : Int}, IsNum a w t → nan a = false := by
    intro a w t h
    rw [nan_key]
    unfold key
    rw [h.2.2]
    rfl
  exact ⟨z, q, x1, y1, z1, q1, nn x2, nn y2⟩
theorem digs_bytes (k : Nat) (hk : k < 100000000) : ∃ qb : ByteArray, qb.data.toList = decL k ∧ qb.size ≤ 8 ∧ (∀ w, Calls Try.prog 15 #[.int .i64 k] w fun e w' => e = .returned (.string qb) ∧ Below w.heap.size w w') := wholes_at k hk
theorem parse_bytes (b : ByteArray) (l : List UInt8) (v : Option Nat) (hs : b.size ≤ 200) (hb : b.data.toList = l) (hv : parseL l = v) (w : World) : Calls Try.prog 16 #[.string b] w (PlainP w v) := by
  have h := parse_any b hs w
  rw [hb, hv] at h
  exact h
set_option maxRecDepth 100000 in
set_option maxHeartbeats 2000000 in
theorem tens_in (n e : Nat) (h0 : n ≠ 0) (hn : n ≤ 1000) (he : e ≤ 12) (w : World) :
    Calls Try.prog 6 #[.int .i64 n, .int .i64 e] w fun e w' => e = .returned (.bool true) ∧ Below w.heap.size w w' := by
  have HB0 := Aside0.mk (Below.refl w.heap.size w)
  have CK := Aside0.mk known_any
  obtain ⟨nb, n1, n2, hcn⟩ := digs_bytes n (by omega)
  obtain ⟨eb, e1, e2, hce⟩ := digs_bytes e (by omega)
  obtain ⟨fb, f1, f2, hcf⟩ := digs_bytes (e + 1) (by omega)
  obtain ⟨zb, z1, z2, hcz⟩ := digs_bytes 0 (by omega)
  have hz0 : decL 0 = [48] := decL_one (by decide)
  rw [hz0] at z1
  rw [show ((e + 1 : Nat) : Int) = (e : Int) + 1 by omega] at hcf
  obtain ⟨x, y, x1, y1, zz, hm, m1, m2⟩ := tens_all n e h0 hn he
  have CN := Aside0.mk hcn
  have CE := Aside0.mk hce
  have CF := Aside0.mk hcf
  have CZ : Aside0 (∀ w, Calls Try.prog 15 #[.int .i64 0] w fun e w' => e = .returned (.string zb) ∧ Below w.heap.size w w') := ⟨hcz⟩
  have P1 := Aside0.mk (parse_bytes (nb ++ (⟨#[101]⟩ : ByteArray) ++ eb) (decL n ++ 101 :: decL e) (some x) (by simp [lit_size]; omega) (by simp only [app_list, n1, e1]; simp) x1)
  have P2 := Aside0.mk (parse_bytes (nb ++ (⟨#[69, 43]⟩ : ByteArray) ++ fb) (decL n ++ 69 :: 43 :: decL (e + 1)) (some y) (by simp [lit_size]; omega) (by simp only [app_list, n1, f1]; simp) y1)
  have P3 := Aside0.mk (parse_bytes (nb ++ (⟨#[46]⟩ : ByteArray) ++ zb ++ (⟨#[101]⟩ : ByteArray) ++ eb) (decL n ++ 46 :: ([48] ++ 101 :: decL e)) (some x) (by simp [lit_size]; omega) (by simp only [app_list, n1, e1, z1]; simp) zz)
  have km := fun W => run_float_arith (P := Try.prog) W .mul 23 .f64 4621819117588971520 x y hm
  have q1 := eq_of_nan' m1
  have q2 := eq_of_nan' m2
  clear hcn hce hcf hcz n1 e1 f1 z1 hz0 x1 y1 zz hm m1 m2
  have g1 : (1 : Int) ≤ n := by omega
  go_enter Try.func6, Try.ntmps6
  go_wp2_with fail
  refine (CN.out _).mono ?_
  rintro e w1 ⟨rfl, hb1⟩
  have HB1 := Aside0.mk (below_two HB0.out hb1)
  clear hb1
  go_wp2_with fail
  refine (CE.out _).mono ?_
  rintro e w2 ⟨rfl, hb2⟩
  have HB2 := Aside0.mk (below_two HB1.out hb2)
  clear hb2
  go_wp2_with fail
  refine (P1.out _).mono ?_
  rintro e w3 ⟨rfl, hb3⟩
  have HB3 := Aside0.mk (below_two HB2.out hb3)
  clear hb3
  go_wp2_with fail
  refine (CN.out _).mono ?_
  rintro e w4 ⟨rfl, hb4⟩
  have HB4 := Aside0.mk (below_two HB3.out hb4)
  clear hb4
  go_wp2_with fail
  refine (CF.out _).mono ?_
  rintro e w5 ⟨rfl, hb5⟩
  have HB5 := Aside0.mk (below_two HB4.out hb5)
  clear hb5
  go_wp2_with fail
  refine (P2.out _).mono ?_
  rintro e w6 ⟨rfl, hb6⟩
  have HB6 := Aside0.mk (below_two HB5.out hb6)
  clear hb6
  go_wp2_with fail
  refine (CN.out _).mono ?_
  rintro e w7 ⟨rfl, hb7⟩
  have HB7 := Aside0.mk (below_two HB6.out hb7)
  clear hb7
  go_wp2_with fail
  refine (CZ.out _).mono ?_
  rintro e w8 ⟨rfl, hb8⟩
  have HB8 := Aside0.mk (below_two HB7.out hb8)
  clear hb8
  go_wp2_with fail
  refine (CE.out _).mono ?_
  rintro e w9 ⟨rfl, hb9⟩
  have HB9 := Aside0.mk (below_two HB8.out hb9)
  clear hb9
  go_wp2_with fail
  refine (P3.out _).mono ?_
  rintro e w10 ⟨rfl, hb10⟩
  have HB10 := Aside0.mk (below_two HB9.out hb10)
  clear hb10
  go_wp2_with fail
  refine (CK.out _).mono ?_
  rintro e w11 ⟨rfl, hb11⟩
  have HB11 := Aside0.mk (below_two HB10.out hb11)
  clear hb11
  go_wp2_with fail
  go_ret
  exact ⟨rfl, HB11.out⟩
set_option maxHeartbeats 1000000 in
theorem tens_law (n e : Int) (w : World) (hn : (Lit.int .i64 n).wf = true) (he : (Lit.int .i64 e).wf = true) :
    Calls Try.prog 6 #[.int .i64 n, .int .i64 e] w fun e w' => e = .returned (.bool true) ∧ Below w.heap.size w w' := by
  by_cases h1 : 1 ≤ n ∧ n ≤ 1000 ∧ 0 ≤ e ∧ e ≤ 12
  · obtain ⟨k, rfl⟩ := Int.eq_ofNat_of_zero_le (a := n) (by omega)
    obtain ⟨j, rfl⟩ := Int.eq_ofNat_of_zero_le (a := e) (by omega)
    exact tens_in k j (by omega) (by omega) (by omega) w
  · have h : n < 1 ∨ (1 ≤ n ∧ 1000 < n) ∨ (1 ≤ n ∧ n ≤ 1000 ∧ e < 0) ∨ (1 ≤ n ∧ n ≤ 1000 ∧ 0 ≤ e ∧ 12 < e) := by omega
    clear h1
    rcases h with h | ⟨h, h2⟩ | ⟨h, h2, h3⟩ | ⟨h, h2, h3, h4⟩
    all_goals
      go_enter Try.func6, Try.ntmps6
      go_wp2_with fail
      go_ret
      exact ⟨rfl, Below.refl _ _⟩
end Go.Proofs.Ytmenjcjpihpjjaa.Fb
