/- The walks of the runes' tests. -/
import Derived.Test.YtbaegfjoionojaaDoorTmM
import Derived.Test.YtbaegfjoionojaaDoorShelf
import Derived.WalkKit
import Derived.Below
set_option linter.unusedSimpArgs false
set_option linter.unusedVariables false
namespace Go.Proofs.YtbaegfjoionojaaDoor.Tm
open Go Go.RowKit Go.Shelf Go.Proofs.YtbaegfjoionojaaDoorW.PrintWords

theorem ret_b {a b : Bool} (h : a = b) : Ending.returned (.bool a) = .returned (.bool b) := by rw [h]
theorem isSmall_any (x : Nat) (w : World) : Calls Tryd.prog 154 #[.int .i32 (x : Int)] w fun e w' => e = .returned (.bool (smallB x)) ∧ w' = w := by
  have h1 : 97 ≤ x ∨ x < 97 := by omega
  have h2 : x ≤ 122 ∨ 122 < x := by omega
  rcases h1 with h1 | h1
  · have g1 : (97 : Int) ≤ (x : Int) := by omega
    rcases h2 with h2 | h2
    · have g2 : (x : Int) ≤ 122 := by omega
      have HS := Aside0.mk (show smallB x = true by unfold smallB; simp [h1, h2])
      clear h1 h2
      go_enter Tryd.func154, Tryd.ntmps154
      go_wp2_with fail
      go_ret
      exact ⟨ret_b (by rw [HS.out]; try (first | rfl | (simp; done) | (simp; omega))), rfl⟩
    · have g2 : (122 : Int) < (x : Int) := by omega
      have HS := Aside0.mk (show smallB x = false by unfold smallB; simp; omega)
      clear h1 h2
      go_enter Tryd.func154, Tryd.ntmps154
      go_wp2_with fail
      go_ret
      exact ⟨ret_b (by rw [HS.out]; try (first | rfl | (simp; done) | (simp; omega))), rfl⟩
  · have g1 : (x : Int) < 97 := by omega
    have HS := Aside0.mk (show smallB x = false by unfold smallB; simp; omega)
    clear h1 h2
    go_enter Tryd.func154, Tryd.ntmps154
    go_wp2_with fail
    go_ret
    exact ⟨ret_b (by rw [HS.out]; try (first | rfl | (simp; done) | (simp; omega))), rfl⟩
theorem isDigit_any (x : Nat) (w : World) : Calls Tryd.prog 151 #[.int .i32 (x : Int)] w fun e w' => e = .returned (.bool (digitB x)) ∧ w' = w := by
  have h1 : 48 ≤ x ∨ x < 48 := by omega
  have h2 : x ≤ 57 ∨ 57 < x := by omega
  rcases h1 with h1 | h1
  · have g1 : (48 : Int) ≤ (x : Int) := by omega
    rcases h2 with h2 | h2
    · have g2 : (x : Int) ≤ 57 := by omega
      have HS := Aside0.mk (show digitB x = true by unfold digitB; simp [h1, h2])
      clear h1 h2
      go_enter Tryd.func151, Tryd.ntmps151
      go_wp2_with fail
      go_ret
      exact ⟨ret_b (by rw [HS.out]; try (first | rfl | (simp; done) | (simp; omega))), rfl⟩
    · have g2 : (57 : Int) < (x : Int) := by omega
      have HS := Aside0.mk (show digitB x = false by unfold digitB; simp; omega)
      clear h1 h2
      go_enter Tryd.func151, Tryd.ntmps151
      go_wp2_with fail
      go_ret
      exact ⟨ret_b (by rw [HS.out]; try (first | rfl | (simp; done) | (simp; omega))), rfl⟩
  · have g1 : (x : Int) < 48 := by omega
    have HS := Aside0.mk (show digitB x = false by unfold digitB; simp; omega)
    clear h1 h2
    go_enter Tryd.func151, Tryd.ntmps151
    go_wp2_with fail
    go_ret
    exact ⟨ret_b (by rw [HS.out]; try (first | rfl | (simp; done) | (simp; omega))), rfl⟩
theorem isLetter_any (x : Nat) (w : World) : Calls Tryd.prog 150 #[.int .i32 (x : Int)] w fun e w' => e = .returned (.bool (letterB x)) ∧ w' = w := by
  have CS := Aside0.mk (isSmall_any x w)
  cases hs : smallB x with
  | true =>
    rw [hs] at CS
    have HS := Aside0.mk (show letterB x = true by unfold letterB; rw [hs]; rfl)
    clear hs
    go_enter Tryd.func150, Tryd.ntmps150
    go_wp2_with (go_at_call 154; (with_reducible refine CS.out.mono ?_); rintro e w1 ⟨rfl, rfl⟩)
    go_ret
    exact ⟨ret_b (by rw [HS.out]; try (first | rfl | (simp; done) | (simp; omega))), rfl⟩
  | false =>
    rw [hs] at CS
    have HU := Aside0.mk (show letterB x = upperB x by unfold letterB; rw [hs]; rfl)
    clear hs
    have h1 : 65 ≤ x ∨ x < 65 := by omega
    have h2 : x ≤ 90 ∨ 90 < x := by omega
    rcases h1 with h1 | h1
    · have g1 : (65 : Int) ≤ (x : Int) := by omega
      rcases h2 with h2 | h2
      · have g2 : (x : Int) ≤ 90 := by omega
        have HS := Aside0.mk (show letterB x = true by rw [HU.out]; unfold upperB; simp [h1, h2])
        clear h1 h2
        go_enter Tryd.func150, Tryd.ntmps150
        go_wp2_with (go_at_call 154; (with_reducible refine CS.out.mono ?_); rintro e w1 ⟨rfl, rfl⟩)
        go_ret
        exact ⟨ret_b (by rw [HS.out]; try (first | rfl | (simp; done) | (simp; omega))), rfl⟩
      · have g2 : (90 : Int) < (x : Int) := by omega
        have HS := Aside0.mk (show letterB x = false by rw [HU.out]; unfold upperB; simp; omega)
        clear h1 h2
        go_enter Tryd.func150, Tryd.ntmps150
        go_wp2_with (go_at_call 154; (with_reducible refine CS.out.mono ?_); rintro e w1 ⟨rfl, rfl⟩)
        go_ret
        exact ⟨ret_b (by rw [HS.out]; try (first | rfl | (simp; done) | (simp; omega))), rfl⟩
    · have g1 : (x : Int) < 65 := by omega
      have HS := Aside0.mk (show letterB x = false by rw [HU.out]; unfold upperB; simp; omega)
      clear h1 h2
      go_enter Tryd.func150, Tryd.ntmps150
      go_wp2_with (go_at_call 154; (with_reducible refine CS.out.mono ?_); rintro e w1 ⟨rfl, rfl⟩)
      go_ret
      exact ⟨ret_b (by rw [HS.out]; try (first | rfl | (simp; done) | (simp; omega))), rfl⟩
theorem odd_index : ∀ x : Fin 128, decide (0 ≤ Lib.indexByte [34, 60, 62, 92, 94, 96, 123, 124, 125] ((x.val : Int)).toNat.toUInt8) = oddB x.val := by decide +kernel
set_option maxRecDepth 100000 in
theorem isRune_any (x : Nat) (hx : x ≤ 1114111) (w : World) : Calls Tryd.prog 141 #[.int .i32 (x : Int)] w fun e w' => e = .returned (.bool (iriRuneB x)) ∧ w' = w := by
  have h1 : x ≤ 32 ∨ (32 < x ∧ x < 127) ∨ (127 ≤ x ∧ x < 160) ∨ 160 ≤ x := by omega
  rcases h1 with h | ⟨h, h2⟩ | ⟨h, h2⟩ | h
  · have g1 : (x : Int) ≤ 32 := by omega
    have HS := Aside0.mk (show iriRuneB x = false by unfold iriRuneB; simp; omega)
    clear h hx
    go_enter Tryd.func141, Tryd.ntmps141
    go_wp2_with fail
    go_ret
    exact ⟨ret_b (by rw [HS.out]; try (first | rfl | (simp; done) | (simp; omega))), rfl⟩
  · have g1 : (32 : Int) < (x : Int) := by omega
    have g2 : (x : Int) < 127 := by omega
    have CR := Tryd.strings_ContainsRune_ascii ⟨#[34, 60, 62, 92, 94, 96, 123, 124, 125]⟩ (x : Int) w (by omega) (by omega)
    have ho := odd_index ⟨x, by omega⟩
    simp only at ho
    rw [show (ByteArray.mk #[34, 60, 62, 92, 94, 96, 123, 124, 125]).data.toList = [34, 60, 62, 92, 94, 96, 123, 124, 125] from rfl, ho] at CR
    have CR := Aside0.mk CR
    have HS := Aside0.mk (show iriRuneB x = !oddB x by unfold iriRuneB; simp [h, h2]; omega)
    obtain ⟨b, hb⟩ : ∃ b, b = oddB x := ⟨_, rfl⟩
    rw [← hb] at HS CR
    clear h h2 hx ho hb
    cases b
    all_goals
      go_enter Tryd.func141, Tryd.ntmps141
      go_wp2_with (go_at_call 161; (with_reducible refine CR.out.mono ?_); rintro e w1 ⟨rfl, rfl⟩)
      go_ret
      exact ⟨ret_b (by rw [HS.out]; try (first | rfl | (simp; done) | (simp; omega))), rfl⟩
  · have g1 : (127 : Int) ≤ (x : Int) := by omega
    have g2 : (x : Int) < 160 := by omega
    have HS := Aside0.mk (show iriRuneB x = false by unfold iriRuneB; simp; omega)
    clear h h2 hx
    go_enter Tryd.func141, Tryd.ntmps141
    go_wp2_with fail
    go_ret
    exact ⟨ret_b (by rw [HS.out]; try (first | rfl | (simp; done) | (simp; omega))), rfl⟩
  · have g1 : (160 : Int) ≤ (x : Int) := by omega
    have HS := Aside0.mk (show iriRuneB x = true by unfold iriRuneB; simp; omega)
    clear h hx
    go_enter Tryd.func141, Tryd.ntmps141
    go_wp2_with fail
    go_ret
    exact ⟨ret_b (by rw [HS.out]; try (first | rfl | (simp; done) | (simp; omega))), rfl⟩
/-- A label's rune. -/
theorem label1_any (x : Nat) (w : World) : Calls Tryd.prog 149 #[.int .i32 (x : Int)] w fun e w' => e = .returned (.bool (alnumB x)) ∧ w' = w := by
  have CL := Aside0.mk (isLetter_any x w)
  have CD := Aside0.mk (isDigit_any x w)
  unfold alnumB
  obtain ⟨a, ha⟩ : ∃ a, a = letterB x := ⟨_, rfl⟩
  obtain ⟨b, hb⟩ : ∃ b, b = digitB x := ⟨_, rfl⟩
  rw [← ha] at CL ⊢
  rw [← hb] at CD ⊢
  clear ha hb
  cases a
  all_goals
    go_enter Tryd.func149, Tryd.ntmps149
    go_wp2_with (first
      | (go_at_call 150; (with_reducible refine CL.out.mono ?_); rintro e w1 ⟨rfl, rfl⟩)
      | (go_at_call 151; (with_reducible refine CD.out.mono ?_); rintro e w1 ⟨rfl, rfl⟩))
    go_ret
    exact ⟨ret_b (by simp), rfl⟩
/-- A language's rune, in its i-th part. -/
theorem lang1_any (x i bk : Nat) (w : World) (hc : w.cell? ⟨bk, 0, none⟩ = some (.int .i64 (i : Int))) : Calls Tryd.prog 153 #[.int .i32 (x : Int), .pointer (some ⟨bk, 0, none⟩)] w fun e w' => e = .returned (.bool (langRuneB i x)) ∧ w' = w := by
  have CS := Aside0.mk (isSmall_any x w)
  have CD := Aside0.mk (isDigit_any x w)
  unfold langRuneB
  obtain ⟨a, ha⟩ : ∃ a, a = smallB x := ⟨_, rfl⟩
  obtain ⟨b, hb⟩ : ∃ b, b = digitB x := ⟨_, rfl⟩
  rw [← ha] at CS ⊢
  rw [← hb] at CD ⊢
  clear ha hb
  have hi : i = 0 ∨ 0 < i := by omega
  rcases hi with rfl | hi
  · cases a
    all_goals
      go_enter Tryd.func153, Tryd.ntmps153
      go_wp2_with (first
        | (go_at_call 154; (with_reducible refine CS.out.mono ?_); rintro e w1 ⟨rfl, rfl⟩)
        | (go_at_call 151; (with_reducible refine CD.out.mono ?_); rintro e w1 ⟨rfl, rfl⟩))
      go_ret
      exact ⟨ret_b (by simp), rfl⟩
  · have hi2 : (0 : Int) < (i : Int) := by omega
    have HI := Aside0.mk (decide_eq_true hi)
    cases a
    all_goals
      go_enter Tryd.func153, Tryd.ntmps153
      go_wp2_with (first
        | (go_at_call 154; (with_reducible refine CS.out.mono ?_); rintro e w1 ⟨rfl, rfl⟩)
        | (go_at_call 151; (with_reducible refine CD.out.mono ?_); rintro e w1 ⟨rfl, rfl⟩))
      go_ret
      exact ⟨ret_b (by simp [HI.out]), rfl⟩
end Go.Proofs.YtbaegfjoionojaaDoor.Tm
