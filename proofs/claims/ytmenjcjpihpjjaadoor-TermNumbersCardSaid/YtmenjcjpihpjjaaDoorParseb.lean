/- The walk of the program's Parse. -/
import Derived.Test.YtmenjcjpihpjjaaDoorPlaind
import Derived.Test.YtmenjcjpihpjjaaDoorScaleM
import Derived.Test.YtmenjcjpihpjjaaDoorExact
set_option linter.unusedSimpArgs false
set_option linter.unusedVariables false
namespace Go.Proofs.YtmenjcjpihpjjaaDoor.Fb
open Go Go.RowKit Go.Proofs.YtmenjcjpihpjjaaDoorW.PrintWords Go.Proofs.YtmenjcjpihpjjaaDoorW.PrintLast Go.Proofs.YtmenjcjpihpjjaaDoorW.PrintMore
attribute [local go_sem] max2_int min2_int max_two min_two

/-- A number of at most fifteen digits, times a power of ten from -22 to 22: there is a float, without a sign bit, and no NaN. -/
theorem scale_zero : ∀ n, n < 23 → scaleF 0 (n : Nat) = some 0 ∧ scaleF 0 (-(n : Nat)) = some 0 := by decide +kernel
theorem scale_some (m e : Int) (h0 : 0 ≤ m) (h1 : m < 1000000000000000) (h2 : -22 ≤ e) (h3 : e ≤ 22) : ∃ r, scaleF m e = some r ∧ r ≤ 9218868437227405312 := by
  by_cases hm : m = 0
  · subst hm
    rcases Int.le_total 0 e with h | h
    · obtain ⟨n, rfl⟩ := Int.eq_ofNat_of_zero_le h
      exact ⟨0, (scale_zero n (by omega)).1, by omega⟩
    · obtain ⟨n, hn⟩ := Int.eq_ofNat_of_zero_le (a := -e) (by omega)
      have : e = -(n : Nat) := by omega
      subst this
      exact ⟨0, (scale_zero n (by omega)).2, by omega⟩
  · obtain ⟨n, rfl⟩ := Int.eq_ofNat_of_zero_le h0
    obtain ⟨a0, a1, a2⟩ := isNum_int (v := n) (by omega) (by omega)
    obtain ⟨M, b0, p, b1⟩ := pw_numbers e.natAbs (by omega)
    unfold scaleF
    by_cases c : e < 0
    · rw [if_pos c]
      unfold Ieee.Format.div
      rw [a2, b1]
      simp only [Ieee.Datum.quotient, if_neg b0, Option.map_some, Option.some.injEq]
      exact ⟨_, rfl, nearest_le _ _⟩
    · rw [if_neg c]
      unfold Ieee.Format.mul
      rw [a2, b1]
      simp only [Ieee.Datum.product, Option.map_some, Option.some.injEq]
      exact ⟨_, rfl, nearest_le _ _⟩
theorem plain_le {l : List UInt8} {r : Nat} (h : plainL l = some r) : r ≤ 9218868437227405312 := by
  unfold plainL at h
  simp only at h
  split at h
  · rename_i c
    have hd : AllDig (l.take (digN l) ++ (pointL (l.drop (digN l))).1) := (digN_take l).append (by
      unfold pointL
      split
      · exact digN_take _
      · intro c hc; cases hc)
    obtain ⟨v1, v2⟩ := wholeI_small _ hd c.2.2.1
    obtain ⟨r', h1, h2⟩ := scale_some _ _ v1 v2 c.2.2.2.1 c.2.2.2.2
    rw [h1] at h
    injection h with h
    omega
  · cases h
theorem plain_calls (s : ByteArray) (hs : s.size ≤ 200) (w : World) :
    Calls Tryd.prog 67 #[.string s] w (PlainP w (plainL s.data.toList)) :=
  plain_any s hs w fun m e a b c d => by obtain ⟨r, h, _⟩ := scale_some m e a b c d; exact ⟨r, h⟩
/-- The other sign. -/
def negF (a : Nat) : Nat := a ^^^ 9223372036854775808
/-- A text as a number; none: it is none. -/
def parseL (l : List UInt8) : Option Nat :=
  if l = [78, 97, 78] then some 9221120237041090561 else
  (if (signL l).1 = [73, 78, 70] then some 9218868437227405312 else plainL (signL l).1).map fun f => if (signL l).2 = true then negF f else f
theorem run_neg {P : Program} (n : Nat) (w : World) : (Op.unary .neg (.float .f64 n)).run P w = .ok (.float .f64 (negF n)) w := rfl
attribute [local go_sem] run_neg
theorem signL_len (l : List UInt8) : (signL l).1.length ≤ l.length := by
  unfold signL Lib.trimPrefix
  by_cases c1 : Lib.hasPrefix l [45] = true <;> by_cases c2 : Lib.hasPrefix l [43] = true <;> simp [c1, c2]
theorem parse_ret {w w1 : World} {v : Option Nat} {f : Nat} {b : Bool} (hv : v = if b then some f else none) (h0 : b = false → f = 0) (hb : Below w.heap.size w w1) :
    PlainP w v (.returned (.tuple #[.float .f64 f, .bool b])) w1 := by
  refine ⟨?_, hb⟩
  cases b
  · rw [hv, h0 rfl]; rfl
  · rw [hv]; rfl
set_option maxHeartbeats 400000 in
theorem parse_any (s : ByteArray) (hs : s.size ≤ 200) (w : World) :
    Calls Tryd.prog 34 #[.string s] w (PlainP w (parseL s.data.toList)) := by
  have HB0 := Aside0.mk (Below.refl w.heap.size w)
  by_cases hN : s.data.toList = [78, 97, 78]
  · have HV : Aside0 (parseL s.data.toList = some 9221120237041090561) := ⟨by unfold parseL; rw [if_pos hN]⟩
    have h1 : (s.toList == [78, 97, 78]) = true := by rw [bytes_toList]; simpa using hN
    clear hN
    go_enter Tryd.func34, Tryd.ntmps34
    go_wp2_with (first
      | (go_at_call 35; (with_reducible refine (nan_any _).mono ?_); rintro e w1 ⟨rfl, rfl⟩))
    go_ret2
    exact parse_ret (b := true) HV.out (by simp) HB0.out
  · have hV : parseL s.data.toList = (if (signL s.data.toList).1 = [73, 78, 70] then some 9218868437227405312 else plainL (signL s.data.toList).1).map fun f => if (signL s.data.toList).2 = true then negF f else f := by unfold parseL; rw [if_neg hN]
    have h1 : (s.toList == [78, 97, 78]) = false := by rw [bytes_toList]; simpa using hN
    have hdl := signL_len s.data.toList
    rw [toList_size] at hdl
    clear hN
    obtain ⟨x, hx⟩ : ∃ x, x = signL s.data.toList := ⟨_, rfl⟩
    rw [← hx] at hV hdl
    have HX := Aside0.mk hx.symm
    clear hx
    obtain ⟨d, m⟩ := x
    simp only at hV hdl
    obtain ⟨b, hb⟩ : ∃ b : ByteArray, b = ⟨d.toArray⟩ := ⟨_, rfl⟩
    have hbd : b.data.toList = d := by rw [hb]
    have HBB := Aside0.mk hb.symm
    clear hb
    have hP := fun w => plain_calls b (by rw [← toList_size, hbd]; omega) w
    rw [hbd] at hP
    obtain ⟨v, hv⟩ : ∃ v, v = plainL d := ⟨_, rfl⟩
    rw [← hv] at hP hV
    clear hv
    have CP := Aside0.mk hP
    clear hP
    by_cases hI : d = [73, 78, 70]
    · have h2 : (b.toList == [73, 78, 70]) = true := by rw [bytes_toList, hbd]; simpa using hI
      rw [if_pos hI] at hV
      have HV := Aside0.mk hV
      clear hV hI hbd
      cases v <;> cases m
      all_goals
        go_enter Tryd.func34, Tryd.ntmps34
        go_wp2_with (first
          | (go_at_call 66; (with_reducible refine (signed_any _ _).mono ?_); rintro e w1 ⟨rfl, rfl⟩; rw [HX.out]; simp only []; rw [HBB.out])
          | (go_at_call 67; (with_reducible refine (CP.out _).mono ?_); rintro e w1 ⟨rfl, hb⟩; have HB := Aside0.mk hb; clear hb)
          | (go_at_call 36; (with_reducible refine (inf_any _ _).mono ?_); rintro e w1 ⟨rfl, rfl⟩))
        go_ret2
        exact parse_ret (b := true) (by rw [HV.out]; rfl) (by simp) HB.out
    · have h2 : (b.toList == [73, 78, 70]) = false := by rw [bytes_toList, hbd]; simpa using hI
      rw [if_neg hI] at hV
      have HV := Aside0.mk hV
      clear hV hI hbd
      cases v <;> cases m
      all_goals
        go_enter Tryd.func34, Tryd.ntmps34
        go_wp2_with (first
          | (go_at_call 66; (with_reducible refine (signed_any _ _).mono ?_); rintro e w1 ⟨rfl, rfl⟩; rw [HX.out]; simp only []; rw [HBB.out])
          | (go_at_call 67; (with_reducible refine (CP.out _).mono ?_); rintro e w1 ⟨rfl, hb⟩; have HB := Aside0.mk hb; clear hb))
        go_ret2
        first
          | exact parse_ret (b := true) (by rw [HV.out]; rfl) (by simp) HB.out
          | exact parse_ret (b := false) (by rw [HV.out]; rfl) (by simp) HB.out
end Go.Proofs.YtmenjcjpihpjjaaDoor.Fb
