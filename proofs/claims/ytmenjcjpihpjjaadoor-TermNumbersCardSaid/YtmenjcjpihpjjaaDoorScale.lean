/- The walks of Parse: signs; a number times a power of ten. -/
import Derived.Test.YtmenjcjpihpjjaaDoorWhole
set_option linter.unusedSimpArgs false
set_option linter.unusedVariables false
namespace Go.Proofs.YtmenjcjpihpjjaaDoor.Fb
open Go Go.RowKit Go.Proofs.YtmenjcjpihpjjaaDoorW.PrintWords Go.Proofs.YtmenjcjpihpjjaaDoorW.PrintLast Go.Proofs.YtmenjcjpihpjjaaDoorW.PrintMore
attribute [local go_sem] max_two min_two

/-- A text without its sign, and whether that was a minus. -/
def signL (l : List UInt8) : List UInt8 × Bool := if Lib.hasPrefix l [45] = true then (Lib.trimPrefix l [45], true) else (Lib.trimPrefix l [43], false)
theorem signed_any (s : ByteArray) (w : World) :
    Calls Tryd.prog 66 #[.string s] w fun e w' => e = .returned (.tuple #[.string ⟨(signL s.data.toList).1.toArray⟩, .bool (signL s.data.toList).2]) ∧ w = w' := by
  by_cases c : Lib.hasPrefix s.data.toList [45] = true
  · have HC := Aside0.mk c
    go_enter Tryd.func66, Tryd.ntmps66
    go_wp2_with (first
      | (go_at_call 33; (with_reducible refine (Tryd.strings_CutPrefix _ _ _).mono ?_); rintro e w1 ⟨rfl, rfl⟩; rw [show (⟨#[45]⟩ : ByteArray).data.toList = [45] from rfl, HC.out]))
    go_ret2
    exact ⟨by unfold signL; rw [if_pos HC.out]; rfl, rfl⟩
  · have HC : Aside0 (Lib.hasPrefix s.data.toList [45] = false) := ⟨by simpa using c⟩
    clear c
    go_enter Tryd.func66, Tryd.ntmps66
    go_wp2_with (first
      | (go_at_call 33; (with_reducible refine (Tryd.strings_CutPrefix _ _ _).mono ?_); rintro e w1 ⟨rfl, rfl⟩; rw [show (⟨#[45]⟩ : ByteArray).data.toList = [45] from rfl, HC.out])
      | (go_at_call 79; (with_reducible refine (Tryd.strings_TrimPrefix _ _ _).mono ?_); rintro e w1 ⟨rfl, rfl⟩))
    go_ret2
    exact ⟨by unfold signL; rw [if_neg (by rw [HC.out]; simp)]; rfl, rfl⟩
/-- Powers of ten, as floats. -/
def pw : Nat → Nat
  | 0 => 4607182418800017408
  | n + 1 => (Ieee.double.mul (pw n) 4621819117588971520).getD 0
theorem pw_step : ∀ n, n < 22 → Ieee.double.mul (pw n) 4621819117588971520 = some (pw (n + 1)) := by decide +kernel
/-- m times ten to the e. -/
def scaleF (m e : Int) : Option Nat := if e < 0 then Ieee.double.div (floatOfInt .f64 m) (pw e.natAbs) else Ieee.double.mul (floatOfInt .f64 m) (pw e.natAbs)
section
theorem scaled_any (m e : Int) (r : Nat) (h0 : -22 ≤ e) (h1 : e ≤ 22) (hr : scaleF m e = some r) (w : World) :
    Calls Tryd.prog 82 #[.int .i64 m, .int .i64 e] w fun e' w' => e' = .returned (.float .f64 r) ∧ w = w' := by
  obtain ⟨N, hN⟩ : ∃ N : Nat, N = e.natAbs := ⟨_, rfl⟩
  have hm : Builtin.max2 (.int .i64 e) (.int .i64 (-e)) = pure (.int .i64 N) := by
    rw [max2_int]
    have : (if e < -e then -e else e) = (N : Int) := by split <;> omega
    rw [this]
  have hN22 : N ≤ 22 := by omega
  unfold scaleF at hr
  rw [← hN] at hr
  clear hN
  by_cases c : e < 0
  · rw [if_pos c] at hr
    have HR : Aside0 (∀ W, (binOp .quo 40 (.float .f64 (floatOfInt .f64 m)) (.float .f64 (pw N))).run Tryd.prog W = .ok (.float .f64 r) W) := ⟨fun W => run_float_arith W .quo 40 .f64 _ _ r hr⟩
    clear hr
    go_enter Tryd.func82, Tryd.ntmps82
    go_wp2
    go_loop [5, 10] (fun x y => ∃ i : Nat, x = .float .f64 (pw i) ∧ y = .int .i64 i ∧ i ≤ N) (fun _ y => N - (intOf y).toNat)
    case atStart => exact ⟨0, rfl, rfl, by omega⟩
    case round =>
      obtain ⟨i, rfl, rfl, hi⟩ := hrel
      by_cases hlt : i < N
      · have km := fun W => run_float_arith (P := Tryd.prog) W .mul 40 .f64 (pw i) 4621819117588971520 (pw (i + 1)) (pw_step i (by omega))
        go_wp2
        go_round
        case rel => exact ⟨i + 1, rfl, by go_num, by omega⟩
        case measure => simp [intOf]; omega
      · have hin : i = N := by omega
        subst hin
        have km := HR.out
        go_wp2
        go_ret
        exact ⟨rfl, rfl⟩
  · rw [if_neg c] at hr
    have HR : Aside0 (∀ W, (binOp .mul 40 (.float .f64 (floatOfInt .f64 m)) (.float .f64 (pw N))).run Tryd.prog W = .ok (.float .f64 r) W) := ⟨fun W => run_float_arith W .mul 40 .f64 _ _ r hr⟩
    clear hr
    go_enter Tryd.func82, Tryd.ntmps82
    go_wp2
    go_loop [5, 10] (fun x y => ∃ i : Nat, x = .float .f64 (pw i) ∧ y = .int .i64 i ∧ i ≤ N) (fun _ y => N - (intOf y).toNat)
    case atStart => exact ⟨0, rfl, rfl, by omega⟩
    case round =>
      obtain ⟨i, rfl, rfl, hi⟩ := hrel
      by_cases hlt : i < N
      · have km := fun W => run_float_arith (P := Tryd.prog) W .mul 40 .f64 (pw i) 4621819117588971520 (pw (i + 1)) (pw_step i (by omega))
        go_wp2
        go_round
        case rel => exact ⟨i + 1, rfl, by go_num, by omega⟩
        case measure => simp [intOf]; omega
      · have hin : i = N := by omega
        subst hin
        have km := HR.out
        go_wp2
        go_ret
        exact ⟨rfl, rfl⟩
end
end Go.Proofs.YtmenjcjpihpjjaaDoor.Fb
