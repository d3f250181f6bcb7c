/- What the walks of chapter 3 lean on: floats as words, math's small functions, Holds. -/
import Derived.Test.YtmenjcjpihpjjaaDoorProg
import Derived.Test.YtmenjcjpihpjjaaDoorShelf
import Derived.Test.YtmenjcjpihpjjaaDoorWMore
import Derived.Test.YtmenjcjpihpjjaaDoorWNEv
import Derived.Test.YtmenjcjpihpjjaaDoorWTab
import Derived.Below
import Derived.Deep.Draws
import Derived.OwnWalk
import Derived.Tactics
import Derived.WalkKit
import Derived.WalkLawsBesides
import Derived.KernelRfl
import Derived.RowKit3
import Derived.Deep.LoopGhost
import Derived.Deep.QuietTactic
import Derived.BigQuiet
import Derived.WideLaws
import Derived.Deep.DeepCutAuto
import Derived.Deep.CutBlock
import Derived.RegionTactic
import Derived.BigRegion
import Derived.RowKit
import Derived.IntWalk
import Derived.Laws.Externs
import Derived.Laws.FloatArith
import Derived.Laws.FloatBits
set_option linter.unusedSimpArgs false
set_option linter.unusedVariables false
namespace Go.Proofs.YtmenjcjpihpjjaaDoor.Fb
open Go Go.RowKit Go.Proofs.YtmenjcjpihpjjaaDoorW.PrintWords Go.Proofs.YtmenjcjpihpjjaaDoorW.PrintLast Go.Proofs.YtmenjcjpihpjjaaDoorW.PrintMore
attribute [local go_sem] max2_int min2_int max_two min_two

theorem run_from (n : Int) (w : World) : (callFunc 68 #[.int .u64 n]).run Tryd.prog w = .ok (.value (.float .f64 n.toNat)) w := by
  rw [run_callFunc_extern Tryd.func68 (by kernel_rfl) (by kernel_rfl) (by kernel_rfl) (e := Extern.MathFloatBits.float64frombits) (by kernel_rfl)]
  rfl
theorem run_bits (n : Nat) (w : World) : (callFunc 70 #[.float .f64 n]).run Tryd.prog w = .ok (.value (.int .u64 n)) w := by
  rw [run_callFunc_extern Tryd.func70 (by kernel_rfl) (by kernel_rfl) (by kernel_rfl) (e := Extern.MathFloatBits.float64bits) (by kernel_rfl)]
  rfl
/-- How two words stand to each other. -/
def ord (a b : Nat) : Option Ordering := FloatKind.f64.format.order a b
theorem fmt : FloatKind.f64.format = Ieee.double := rfl
/-- An op's answer. -/
def holdsF (o : Option Ordering) (s : ByteArray) : Bool :=
  if (s.toList == [60]) = true then o == some .lt else if (s.toList == [60, 61]) = true then (o == some .lt || o == some .eq) else if (s.toList == [62]) = true then o == some .gt
  else if (s.toList == [62, 61]) = true then (o == some .gt || o == some .eq) else if (s.toList == [61]) = true then o == some .eq else if (s.toList == [33, 61]) = true then o != some .eq else false
section
attribute [local go_sem] run_from run_bits
/-- The sign bit's word. -/
def neg (a : Nat) : Bool := decide (9223372036854775808 ≤ a)
theorem signbit_any (a : Nat) (h : a < 18446744073709551616) (w : World) :
    Calls Tryd.prog 84 #[.float .f64 a] w fun e w' => e = .returned (.bool (neg a)) ∧ w = w' := by
  go_enter Tryd.func84, Tryd.ntmps84
  go_wp2
  go_ret
  refine ⟨?_, rfl⟩
  have e : decide (wrap64 (a : Int) < 0) = decide (9223372036854775808 ≤ a) := by rw [decide_eq_decide]; unfold wrap64; omega
  unfold neg
  rw [← e]
  rfl
theorem nan_any (w : World) : Calls Tryd.prog 35 #[] w fun e w' => e = .returned (.float .f64 9221120237041090561) ∧ w = w' := by
  go_enter Tryd.func35, Tryd.ntmps35
  go_wp2
  go_ret
  exact ⟨rfl, rfl⟩
theorem inf_any (n : Int) (w : World) : Calls Tryd.prog 36 #[.int .i64 n] w fun e w' => e = .returned (.float .f64 (if 0 ≤ n then 9218868437227405312 else 18442240474082181120)) ∧ w = w' := by
  by_cases c : 0 ≤ n
  all_goals
    go_enter Tryd.func36, Tryd.ntmps36
    go_wp2
    go_ret
    simp only [c, if_true, if_false]
    exact ⟨rfl, trivial⟩
end
end Go.Proofs.YtmenjcjpihpjjaaDoor.Fb
