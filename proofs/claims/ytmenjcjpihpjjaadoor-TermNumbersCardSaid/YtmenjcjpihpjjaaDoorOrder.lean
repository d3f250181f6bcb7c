/- The walks of Order, of both makes. -/
import Derived.Test.YtmenjcjpihpjjaaDoorFloatM
set_option linter.unusedSimpArgs false
set_option linter.unusedVariables false
namespace Go.Proofs.YtmenjcjpihpjjaaDoor.Fb
open Go Go.RowKit Go.Proofs.YtmenjcjpihpjjaaDoorW.PrintWords Go.Proofs.YtmenjcjpihpjjaaDoorW.PrintLast Go.Proofs.YtmenjcjpihpjjaaDoorW.PrintMore
attribute [local go_sem] max2_int min2_int max_two min_two

def nan (a : Nat) : Bool := ord a a != some .eq
/-- cmp.Compare. -/
def cmpF (a b : Nat) : Int := if nan a = true then (if nan b = true then 0 else -1) else if nan b = true then 1 else if (ord a b == some .lt) = true then -1 else if (ord a b == some .gt) = true then 1 else 0
/-- The sign's rank. -/
def sgn (a : Nat) : Int := if neg a = true then 0 else 1
def rank (a : Nat) : Int := if nan a = true then 0 else if neg a = true then 1 else 2
theorem rank_any (a : Nat) (h : a < 18446744073709551616) (w : World) :
    Calls Tryd.prog 71 #[.float .f64 a] w fun e w' => e = .returned (.int .i64 (rank a)) ∧ w = w' := by
  go_enter Tryd.func71, Tryd.ntmps71
  go_wp2_with (first | (go_at_call 84; (with_reducible refine (signbit_any _ h _).mono ?_); rintro e w1 ⟨rfl, rfl⟩))
  all_goals
    go_ret
    refine ⟨?_, rfl⟩
    unfold rank nan ord at *
    simp only [*, if_true, Bool.false_eq_true, if_false]
    rfl
/-- Order, of the program. -/
def ordF (a b : Nat) : Int := if cmpF a b = 0 then (if nan a = true then 0 else Lib.compareInt (sgn a) (sgn b)) else cmpF a b
/-- Order, of the document. -/
def ordR (a b : Nat) : Int := if rank a < rank b then -1 else if rank a = rank b then (if (ord a b == some .lt) = true then -1 else if (ord a b == some .gt) = true then 1 else 0) else 1
theorem refOrder_any (a b : Nat) (ha : a < 18446744073709551616) (hb : b < 18446744073709551616) (w : World) :
    Calls Tryd.prog 40 #[.float .f64 a, .float .f64 b] w fun e w' => e = .returned (.int .i64 (ordR a b)) ∧ w = w' := by
  go_enter Tryd.func40, Tryd.ntmps40
  go_wp2_with (first
    | (go_at_call 71; (with_reducible refine (rank_any _ (by omega) _).mono ?_); rintro e w1 ⟨rfl, rfl⟩))
  all_goals
    go_ret
    refine ⟨?_, rfl⟩
    unfold ordR ord
    split <;> (try split) <;> (try split) <;> (try split) <;> first | rfl | (exfalso; omega) | (exfalso; simp_all; done)
theorem nan_key (a : Nat) : nan a = (key a).isNone := by
  unfold nan
  rw [ord_key]
  cases h : key a with
  | none => rfl
  | some x => simp
/-- One order of all: NaN, what has a minus, the others. -/
def ordK (a b : Nat) : Int := match key a, key b with
  | none, none => 0
  | none, some _ => -1
  | some _, none => 1
  | some x, some y => if x < y then -1 else if y < x then 1 else if sgn a < sgn b then -1 else if sgn b < sgn a then 1 else 0
theorem ordF_key (a b : Nat) : ordF a b = ordK a b := by
  unfold ordF ordK cmpF
  rw [nan_key, nan_key, ord_key]
  cases ha : key a with
  | none => cases hb : key b <;> simp
  | some x =>
    cases hb : key b with
    | none => simp
    | some y =>
      simp only [Option.isNone_some, Bool.false_eq_true, if_false]
      rcases Int.lt_trichotomy x y with h | h | h
      · simp only [Int.compare_eq_lt.2 h]; simp [h]
      · subst h
        have hc : compare x x = .eq := Int.compare_eq_eq.2 rfl
        simp only [hc]
        simp [Lib.compareInt]
      · simp only [Int.compare_eq_gt.2 h]; simp [h, show ¬ x < y by omega]
theorem ordR_key (a b : Nat) (h1 : a < 18446744073709551616) (h2 : b < 18446744073709551616) : ordR a b = ordK a b := by
  unfold ordR ordK rank sgn
  rw [nan_key, nan_key, ord_key]
  cases ha : key a with
  | none => cases hb : key b <;> simp <;> split <;> omega
  | some x =>
    have k1 := key_sign h1 ha
    cases hb : key b with
    | none => simp; split <;> omega
    | some y =>
      have k2 := key_sign h2 hb
      simp only [Option.isNone_some, Bool.false_eq_true, if_false]
      rcases Int.lt_trichotomy x y with h | h | h
      · simp only [Int.compare_eq_lt.2 h]
        cases hn : neg a <;> cases hm : neg b <;> simp only [hn, hm, Bool.false_eq_true, if_false, if_true] at k1 k2 <;> simp [h] <;> omega
      · subst h
        have hc : compare x x = .eq := Int.compare_eq_eq.2 rfl
        simp only [hc]
        cases hn : neg a <;> cases hm : neg b <;> simp
      · simp only [Int.compare_eq_gt.2 h]
        cases hn : neg a <;> cases hm : neg b <;> simp only [hn, hm, Bool.false_eq_true, if_false, if_true] at k1 k2 <;> simp [h, show ¬ x < y by omega] <;> omega
end Go.Proofs.YtmenjcjpihpjjaaDoor.Fb
