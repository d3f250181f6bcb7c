/- The walks of Parse: digits, signs, whole numbers. -/
import Derived.Test.YtmenjcjpihpjjaaDoorOrder
set_option linter.unusedSimpArgs false
set_option linter.unusedVariables false
namespace Go.Proofs.YtmenjcjpihpjjaaDoor.Fb
open Go Go.RowKit Go.Proofs.YtmenjcjpihpjjaaDoorW.PrintWords Go.Proofs.YtmenjcjpihpjjaaDoorW.PrintLast Go.Proofs.YtmenjcjpihpjjaaDoorW.PrintMore
attribute [local go_sem] max2_int min2_int max_two min_two

def isDig (c : UInt8) : Bool := decide (48 ≤ c.toNat) && decide (c.toNat ≤ 57)
theorem isDig_yes {c : UInt8} (h1 : 48 ≤ (c.toNat : Int)) (h2 : (c.toNat : Int) ≤ 57) : isDig c = true := by unfold isDig; simp; omega
theorem isDig_no {c : UInt8} (h : ¬ (48 ≤ (c.toNat : Int) ∧ (c.toNat : Int) ≤ 57)) : ¬ isDig c = true := by unfold isDig; simp; omega
/-- How many digits a text begins with. -/
def digN : List UInt8 → Nat
  | [] => 0
  | c :: l => if isDig c = true then digN l + 1 else 0
theorem digN_le (l : List UInt8) : digN l ≤ l.length := by
  induction l with
  | nil => simp [digN]
  | cons c l ih => rw [digN]; split <;> simp <;> omega
theorem drop_at (s : ByteArray) (n : Nat) (h : n < s.size) : s.data.toList.drop n = s[n] :: s.data.toList.drop (n + 1) := by
  rw [List.drop_eq_getElem_cons (by simpa using h)]
  rfl
theorem digits_any (s : ByteArray) (hs : s.size ≤ 1000) (w : World) :
    Calls Tryd.prog 80 #[.string s] w fun e w' => e = .returned (.int .i64 (digN s.data.toList : Nat)) ∧ w = w' := by
  go_enter Tryd.func80, Tryd.ntmps80
  go_wp2
  go_loop [3] (fun x => ∃ n : Nat, x = .int .i64 n ∧ n ≤ s.size ∧ Aside0 (digN s.data.toList = n + digN (s.data.toList.drop n))) (fun x => s.size - (intOf x).toNat)
  case atStart => exact ⟨0, rfl, by omega, ⟨by simp⟩⟩
  case round =>
    obtain ⟨n, rfl, hn, HE⟩ := hrel
    by_cases hlt : n < s.size
    · have HS := Aside0.mk (drop_at s n hlt)
      go_wp2
      · go_round
        case rel => exact ⟨n + 1, by go_num, by omega, ⟨by rw [HE.out, HS.out, digN, if_pos (isDig_yes (by omega) (by omega))]; omega⟩⟩
        case measure => simp [intOf]; omega
      all_goals
        go_ret
        refine ⟨?_, rfl⟩
        rw [HE.out, HS.out, digN, if_neg (isDig_no (by omega))]
        rfl
    · have hin : n = s.size := by omega
      subst hin
      go_wp2
      go_ret
      refine ⟨?_, rfl⟩
      rw [HE.out, List.drop_of_length_le (by simp)]
      rfl
theorem refDigits_any (s : ByteArray) (hs : s.size ≤ 1000) (w : World) :
    Calls Tryd.prog 69 #[.string s] w fun e w' => e = .returned (.int .i64 (digN s.data.toList : Nat)) ∧ w = w' := by
  go_enter Tryd.func69, Tryd.ntmps69
  go_wp2
  go_loop [3] (fun x => ∃ n : Nat, x = .int .i64 n ∧ n ≤ s.size ∧ Aside0 (digN s.data.toList = n + digN (s.data.toList.drop n))) (fun x => s.size - (intOf x).toNat)
  case atStart => exact ⟨0, rfl, by omega, ⟨by simp⟩⟩
  case round =>
    obtain ⟨n, rfl, hn, HE⟩ := hrel
    by_cases hlt : n < s.size
    · have HS := Aside0.mk (drop_at s n hlt)
      go_wp2
      · go_round
        case rel => exact ⟨n + 1, by go_num, by omega, ⟨by rw [HE.out, HS.out, digN, if_pos (isDig_yes (by omega) (by omega))]; omega⟩⟩
        case measure => simp [intOf]; omega
      all_goals
        go_ret
        refine ⟨?_, rfl⟩
        rw [HE.out, HS.out, digN, if_neg (isDig_no (by omega))]
        rfl
    · have hin : n = s.size := by omega
      subst hin
      go_wp2
      go_ret
      refine ⟨?_, rfl⟩
      rw [HE.out, List.drop_of_length_le (by simp)]
      rfl
end Go.Proofs.YtmenjcjpihpjjaaDoor.Fb
