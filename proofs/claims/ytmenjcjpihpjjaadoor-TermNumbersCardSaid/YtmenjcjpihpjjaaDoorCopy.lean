/- The walks of Copysign at a number without a sign bit, of Abs, IsInf, and of Same. -/
import Derived.Test.YtmenjcjpihpjjaaDoorParseb
import Derived.Laws.Bits64b
import Derived.Laws.Entries
set_option linter.unusedSimpArgs false
set_option linter.unusedVariables false
namespace Go.Proofs.YtmenjcjpihpjjaaDoor.Fb
open Go Go.RowKit Go.Proofs.YtmenjcjpihpjjaaDoorW.PrintWords Go.Proofs.YtmenjcjpihpjjaaDoorW.PrintLast Go.Proofs.YtmenjcjpihpjjaaDoorW.PrintMore
attribute [local go_sem] max2_int min2_int max_two min_two
attribute [local go_sem] run_from run_bits run_neg

theorem bv_small (a : Nat) (h : a < 9223372036854775808) : (BitVec.ofNat 64 a &&& ~~~ (9223372036854775808#64)) = BitVec.ofNat 64 a := by
  apply BitVec.eq_of_getLsbD_eq
  intro i hi
  have h2 : (9223372036854775808#64) = BitVec.twoPow 64 63 := by decide
  rw [BitVec.getLsbD_and, BitVec.getLsbD_not, h2, BitVec.getLsbD_twoPow, BitVec.getLsbD_ofNat]
  by_cases c : i = 63
  · subst c
    have : a.testBit 63 = false := Nat.testBit_lt_two_pow (by omega)
    simp [this]
  · simp [hi]; omega
theorem ofInt_nat (a : Nat) : BitVec.ofInt 64 (a : Int) = BitVec.ofNat 64 a := by simp
theorem andNot_small (a : Nat) (h : a < 9223372036854775808) : bits .andNot .u64 (a : Int) 9223372036854775808 = a := by
  unfold bits
  show IntKind.u64.wrap ((BitVec.ofInt 64 (a : Int) &&& ~~~ (BitVec.ofInt 64 9223372036854775808)).toNat) = a
  rw [ofInt_nat, show BitVec.ofInt 64 9223372036854775808 = 9223372036854775808#64 by decide, bv_small a h, IntKind.wrap_u64, BitVec.toNat_ofNat]
  omega
theorem negF_or (a : Nat) (h : a < 9223372036854775808) : a ||| 9223372036854775808 = negF a := by
  unfold negF
  apply Nat.eq_of_testBit_eq
  intro i
  rw [Nat.testBit_or, Nat.testBit_xor, show 9223372036854775808 = 2 ^ 63 by decide, Nat.testBit_two_pow]
  by_cases c : 63 = i
  · subst c
    have : a.testBit 63 = false := Nat.testBit_lt_two_pow (by omega)
    simp [this]
  · simp [c]
theorem negF_add (a : Nat) (h : a < 9223372036854775808) : negF a = a + 9223372036854775808 := by
  rw [← negF_or a h, Nat.or_comm]
  have := Nat.two_pow_add_eq_or_of_lt (i := 63) (b := a) (by omega) 1
  rw [show 2 ^ 63 * 1 = 9223372036854775808 by decide] at this
  omega
theorem copy_pos (a : Nat) (h : a < 9223372036854775808) : (bits .or .u64 (bits .andNot .u64 (a : Int) 9223372036854775808) (bits .and .u64 4607182418800017408 9223372036854775808)).toNat = a := by
  rw [andNot_small a h, show bits .and .u64 4607182418800017408 9223372036854775808 = ((0 : Nat) : Int) by decide +kernel, bits_or_u64_nat a 0 (by omega) (by omega), Nat.or_zero]
  exact Int.toNat_natCast a
theorem copy_neg (a : Nat) (h : a < 9223372036854775808) : (bits .or .u64 (bits .andNot .u64 (a : Int) 9223372036854775808) (bits .and .u64 13830554455654793216 9223372036854775808)).toNat = negF a := by
  rw [andNot_small a h, show bits .and .u64 13830554455654793216 9223372036854775808 = ((9223372036854775808 : Nat) : Int) by decide +kernel, bits_or_u64_nat a 9223372036854775808 (by omega) (by omega), negF_or a h]
  exact Int.toNat_natCast _
theorem ret_float {a b : Nat} (h : a = b) : Ending.returned (.float .f64 a) = .returned (.float .f64 b) := by rw [h]
theorem same_any (a b : Nat) (ha : a < 18446744073709551616) (hb : b < 18446744073709551616) (w : World) :
    Calls Tryd.prog 20 #[.float .f64 a, .float .f64 b] w fun e w' => e = .returned (.bool (ordK a b == 0)) ∧ w = w' := by
  have ho := ordR_key a b ha hb
  have CO := Aside0.mk (refOrder_any a b ha hb)
  rw [ho] at CO
  clear ho
  go_enter Tryd.func20, Tryd.ntmps20
  go_wp2_with (first
    | (go_at_call 40; (with_reducible refine (CO.out _).mono ?_); rintro e w1 ⟨rfl, rfl⟩))
  go_ret
  exact ⟨rfl, rfl⟩
theorem copysign_pos (a : Nat) (h : a ≤ 9218868437227405312) (w : World) :
    Calls Tryd.prog 39 #[.float .f64 a, .float .f64 4607182418800017408] w fun e w' => e = .returned (.float .f64 a) ∧ w = w' := by
  go_enter Tryd.func39, Tryd.ntmps39
  go_wp2
  go_ret
  exact ⟨ret_float (copy_pos a (by omega)), rfl⟩
theorem copysign_neg (a : Nat) (h : a ≤ 9218868437227405312) (w : World) :
    Calls Tryd.prog 39 #[.float .f64 a, .float .f64 13830554455654793216] w fun e w' => e = .returned (.float .f64 (negF a)) ∧ w = w' := by
  go_enter Tryd.func39, Tryd.ntmps39
  go_wp2
  go_ret
  exact ⟨ret_float (copy_neg a (by omega)), rfl⟩
end Go.Proofs.YtmenjcjpihpjjaaDoor.Fb
