/- What the walks of chapter 3 lean on: floats as words, math's small functions, Holds. -/
import Derived.Test.YtmenjcjpihpjjaaProg
import Derived.Test.YtmenjcjpihpjjaaShelf
import Derived.Test.YtmenjcjpihpjjaaWMore
import Derived.Test.YtmenjcjpihpjjaaWNEv
import Derived.Test.YtmenjcjpihpjjaaWTab
import Derived.Below
import Derived.Deep.Draws
import Derived.OwnWalk
import Derived.Tactics
import Derived.WalkKit
import Derived.WalkLawsBesides
import Derived.KernelRfl
import Derived.RowKit3
import Derived.Deep.LoopGhost
import Derived.Deep.QuietTactic
import Derived.BigQuiet
import Derived.WideLaws
import Derived.Deep.DeepCutAuto
import Derived.Deep.CutBlock
import Derived.RegionTactic
import Derived.BigRegion
import Derived.RowKit
import Derived.IntWalk
import Derived.Laws.Externs
import Derived.Laws.FloatArith
import Derived.Laws.FloatBits
set_option linter.unusedSimpArgs false
set_option linter.unusedVariables false
namespace Go.Proofs.Ytmenjcjpihpjjaa.Fb
open Go Go.RowKit Go.Proofs.YtmenjcjpihpjjaaW.PrintWords Go.Proofs.YtmenjcjpihpjjaaW.PrintLast Go.Proofs.YtmenjcjpihpjjaaW.PrintMore
attribute [local go_sem] max2_int min2_int max_two min_two

theorem run_from (n : Int) (w : World) : (callFunc 12 #[.int .u64 n]).run Try.prog w = .ok (.value (.float .f64 n.toNat)) w := by
  rw [run_callFunc_extern Try.func12 (by kernel_rfl) (by kernel_rfl) (by kernel_rfl) (e := Extern.MathFloatBits.float64frombits) (by kernel_rfl)]
  rfl
theorem run_bits (n : Nat) (w : World) : (callFunc 28 #[.float .f64 n]).run Try.prog w = .ok (.value (.int .u64 n)) w := by
  rw [run_callFunc_extern Try.func28 (by kernel_rfl) (by kernel_rfl) (by kernel_rfl) (e := Extern.MathFloatBits.float64bits) (by kernel_rfl)]
  rfl
/-- How two words stand to each other. -/
def ord (a b : Nat) : Option Ordering := FloatKind.f64.format.order a b
theorem fmt : FloatKind.f64.format = Ieee.double := rfl
/-- An op's answer. -/
def holdsF (o : Option Ordering) (s : ByteArray) : Bool :=
  if (s.toList == [60]) = true then o == some .lt else if (s.toList == [60, 61]) = true then (o == some .lt || o == some .eq) else if (s.toList == [62]) = true then o == some .gt
  else if (s.toList == [62, 61]) = true then (o == some .gt || o == some .eq) else if (s.toList == [61]) = true then o == some .eq else if (s.toList == [33, 61]) = true then o != some .eq else false
theorem holds_any (a b : Nat) (s : ByteArray) (w : World) :
    Calls Try.prog 13 #[.float .f64 a, .string s, .float .f64 b] w fun e w' => e = .returned (.bool (holdsF (ord a b) s)) ∧ w = w' := by
  go_enter Try.func13, Try.ntmps13
  go_wp2
  all_goals
    go_ret
    refine ⟨?_, rfl⟩
    unfold holdsF ord
    simp only [*, if_true, Bool.false_eq_true, if_false]
    rfl
theorem refHolds_any (a b : Nat) (s : ByteArray) (w : World) :
    Calls Try.prog 21 #[.float .f64 a, .string s, .float .f64 b] w fun e w' => e = .returned (.bool (holdsF (ord a b) s)) ∧ w = w' := by
  go_enter Try.func21, Try.ntmps21
  go_wp2
  all_goals
    go_ret
    refine ⟨?_, rfl⟩
    unfold holdsF ord
    simp only [*, if_true, Bool.false_eq_true, if_false]
    rfl
section
attribute [local go_sem] run_from run_bits
/-- The sign bit's word. -/
def neg (a : Nat) : Bool := decide (9223372036854775808 ≤ a)
theorem signbit_any (a : Nat) (h : a < 18446744073709551616) (w : World) :
    Calls Try.prog 17 #[.float .f64 a] w fun e w' => e = .returned (.bool (neg a)) ∧ w = w' := by
  go_enter Try.func17, Try.ntmps17
  go_wp2
  go_ret
  refine ⟨?_, rfl⟩
  have e : decide (wrap64 (a : Int) < 0) = decide (9223372036854775808 ≤ a) := by rw [decide_eq_decide]; unfold wrap64; omega
  unfold neg
  rw [← e]
  rfl
theorem isnan_any (a : Nat) (w : World) :
    Calls Try.prog 34 #[.float .f64 a] w fun e w' => e = .returned (.bool (ord a a != some .eq)) ∧ w = w' := by
  go_enter Try.func34, Try.ntmps34
  go_wp2
  go_ret
  exact ⟨rfl, rfl⟩
theorem cmpnan_any (a : Nat) (w : World) :
    Calls Try.prog 45 #[.float .f64 a] w fun e w' => e = .returned (.bool (ord a a != some .eq)) ∧ w = w' := by
  go_enter Try.func45, Try.ntmps45
  go_wp2
  go_ret
  exact ⟨rfl, rfl⟩
theorem nan_any (w : World) : Calls Try.prog 24 #[] w fun e w' => e = .returned (.float .f64 9221120237041090561) ∧ w = w' := by
  go_enter Try.func24, Try.ntmps24
  go_wp2
  go_ret
  exact ⟨rfl, rfl⟩
theorem inf_any (n : Int) (w : World) : Calls Try.prog 27 #[.int .i64 n] w fun e w' => e = .returned (.float .f64 (if 0 ≤ n then 9218868437227405312 else 18442240474082181120)) ∧ w = w' := by
  by_cases c : 0 ≤ n
  all_goals
    go_enter Try.func27, Try.ntmps27
    go_wp2
    go_ret
    simp only [c, if_true, if_false]
    exact ⟨rfl, trivial⟩
end
end Go.Proofs.Ytmenjcjpihpjjaa.Fb
