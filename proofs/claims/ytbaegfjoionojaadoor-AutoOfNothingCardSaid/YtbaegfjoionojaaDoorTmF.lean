/- The walks of the reference's iriRune, Alnum, label, IsIRI. -/
import Derived.Test.YtbaegfjoionojaaDoorTmE
set_option linter.unusedSimpArgs false
set_option linter.unusedVariables false
namespace Go.Proofs.YtbaegfjoionojaaDoor.Tm
open Go Go.RowKit Go.Shelf Go.Proofs.YtbaegfjoionojaaDoorW.PrintWords

theorem byte_get (s : ByteArray) (i : Nat) (h : i < s.size) : s[i].toNat = byteAt s i := by
  unfold byteAt
  have h2 : i < s.data.size := h
  congr 1
  exact (getElem!_pos s.data i h2).symm
set_option maxRecDepth 100000 in
set_option maxHeartbeats 2000000 in
theorem refRune_any (x : Nat) (w : World) : Calls Tryd.prog 112 #[.int .i32 (x : Int)] w fun e w' => e = .returned (.bool (iriRuneB x)) ∧ w' = w := by
  cases ho : oddB x with
  | true =>
    have hx : x = 34 ∨ x = 60 ∨ x = 62 ∨ x = 92 ∨ x = 94 ∨ x = 96 ∨ x = 123 ∨ x = 124 ∨ x = 125 := by unfold oddB at ho; simp at ho; omega
    clear ho
    rcases hx with rfl | rfl | rfl | rfl | rfl | rfl | rfl | rfl | rfl
    all_goals
      go_enter Tryd.func112, Tryd.ntmps112
      go_wp2_with fail
      go_ret
      exact ⟨rfl, rfl⟩
  | false =>
    have hx : ¬ x = 34 ∧ ¬ x = 60 ∧ ¬ x = 62 ∧ ¬ x = 92 ∧ ¬ x = 94 ∧ ¬ x = 96 ∧ ¬ x = 123 ∧ ¬ x = 124 ∧ ¬ x = 125 := by unfold oddB at ho; simp at ho; omega
    have HR := Aside0.mk (show iriRuneB x = ((decide (32 < x) && decide (x < 127)) || decide (160 ≤ x)) by unfold iriRuneB; rw [ho]; simp)
    obtain ⟨n1, n2, n3, n4, n5, n6, n7, n8, n9⟩ := hx
    have k1 : ((x : Int) == 34) = false := by simpa using (fun h => n1 (by omega) : ¬ (x : Int) = 34)
    have k2 : ((x : Int) == 60) = false := by simpa using (fun h => n2 (by omega) : ¬ (x : Int) = 60)
    have k3 : ((x : Int) == 62) = false := by simpa using (fun h => n3 (by omega) : ¬ (x : Int) = 62)
    have k4 : ((x : Int) == 92) = false := by simpa using (fun h => n4 (by omega) : ¬ (x : Int) = 92)
    have k5 : ((x : Int) == 94) = false := by simpa using (fun h => n5 (by omega) : ¬ (x : Int) = 94)
    have k6 : ((x : Int) == 96) = false := by simpa using (fun h => n6 (by omega) : ¬ (x : Int) = 96)
    have k7 : ((x : Int) == 123) = false := by simpa using (fun h => n7 (by omega) : ¬ (x : Int) = 123)
    have k8 : ((x : Int) == 124) = false := by simpa using (fun h => n8 (by omega) : ¬ (x : Int) = 124)
    have k9 : ((x : Int) == 125) = false := by simpa using (fun h => n9 (by omega) : ¬ (x : Int) = 125)
    clear n1 n2 n3 n4 n5 n6 n7 n8 n9 ho
    have h1 : x ≤ 32 ∨ (33 ≤ x ∧ x ≤ 126) ∨ (127 ≤ x ∧ x < 160) ∨ 160 ≤ x := by omega
    rcases h1 with h | ⟨h, h2⟩ | ⟨h, h2⟩ | h
    · have g1 : (x : Int) < 33 := by omega
      have HS := Aside0.mk (show iriRuneB x = false by rw [HR.out]; simp; omega)
      clear h
      go_enter Tryd.func112, Tryd.ntmps112
      go_wp2_with fail
      go_ret
      exact ⟨ret_b (by rw [HS.out]; try (first | rfl | (simp; done) | (simp; omega))), rfl⟩
    · have g1 : (33 : Int) ≤ (x : Int) := by omega
      have g2 : (x : Int) ≤ 126 := by omega
      have HS := Aside0.mk (show iriRuneB x = true by rw [HR.out]; simp; omega)
      clear h h2
      go_enter Tryd.func112, Tryd.ntmps112
      go_wp2_with fail
      go_ret
      exact ⟨ret_b (by rw [HS.out]; try (first | rfl | (simp; done) | (simp; omega))), rfl⟩
    · have g1 : (126 : Int) < (x : Int) := by omega
      have g2 : (x : Int) < 160 := by omega
      have g3 : (33 : Int) ≤ (x : Int) := by omega
      have HS := Aside0.mk (show iriRuneB x = false by rw [HR.out]; simp; omega)
      clear h h2
      go_enter Tryd.func112, Tryd.ntmps112
      go_wp2_with fail
      go_ret
      exact ⟨ret_b (by rw [HS.out]; try (first | rfl | (simp; done) | (simp; omega))), rfl⟩
    · have g1 : (160 : Int) ≤ (x : Int) := by omega
      have HS := Aside0.mk (show iriRuneB x = true by rw [HR.out]; simp; omega)
      clear h
      go_enter Tryd.func112, Tryd.ntmps112
      go_wp2_with fail
      go_ret
      exact ⟨ret_b (by rw [HS.out]; try (first | rfl | (simp; done) | (simp; omega))), rfl⟩
set_option maxHeartbeats 1000000 in
theorem alnum_any (x : Nat) (w : World) : Calls Tryd.prog 155 #[.int .u8 (x : Int)] w fun e w' => e = .returned (.bool (alnumB x)) ∧ w' = w := by
  have hcase : (x < 48 ∧ alnumB x = false) ∨ (48 ≤ x ∧ x ≤ 57 ∧ alnumB x = true) ∨ (57 < x ∧ x < 65 ∧ alnumB x = false) ∨ (65 ≤ x ∧ x ≤ 90 ∧ alnumB x = true) ∨ (90 < x ∧ x < 97 ∧ alnumB x = false) ∨ (97 ≤ x ∧ x ≤ 122 ∧ alnumB x = true) ∨ (122 < x ∧ alnumB x = false) := by
    have h : x < 48 ∨ (48 ≤ x ∧ x ≤ 57) ∨ (57 < x ∧ x < 65) ∨ (65 ≤ x ∧ x ≤ 90) ∨ (90 < x ∧ x < 97) ∨ (97 ≤ x ∧ x ≤ 122) ∨ 122 < x := by omega
    unfold alnumB letterB smallB upperB digitB
    rcases h with h | ⟨h, h2⟩ | ⟨h, h2⟩ | ⟨h, h2⟩ | ⟨h, h2⟩ | ⟨h, h2⟩ | h
    · exact .inl ⟨h, by simp; omega⟩
    · exact .inr (.inl ⟨h, h2, by simp; omega⟩)
    · exact .inr (.inr (.inl ⟨h, h2, by simp; omega⟩))
    · exact .inr (.inr (.inr (.inl ⟨h, h2, by simp; omega⟩)))
    · exact .inr (.inr (.inr (.inr (.inl ⟨h, h2, by simp; omega⟩))))
    · exact .inr (.inr (.inr (.inr (.inr (.inl ⟨h, h2, by simp; omega⟩)))))
    · exact .inr (.inr (.inr (.inr (.inr (.inr ⟨h, by simp; omega⟩)))))
  rcases hcase with ⟨h, hs⟩ | ⟨h, h2, hs⟩ | ⟨h, h2, hs⟩ | ⟨h, h2, hs⟩ | ⟨h, h2, hs⟩ | ⟨h, h2, hs⟩ | ⟨h, hs⟩
  · have g1 : (x : Int) < 48 := by omega
    have g2 : (x : Int) < 65 := by omega
    have g3 : (x : Int) < 97 := by omega
    have HS := Aside0.mk hs
    clear hs h
    go_enter Tryd.func155, Tryd.ntmps155
    go_wp2_with fail
    go_ret
    exact ⟨ret_b (by rw [HS.out]; try (first | rfl | (simp; done) | (simp; omega))), rfl⟩
  · have g1 : (48 : Int) ≤ (x : Int) := by omega
    have g4 : (x : Int) ≤ 57 := by omega
    have g2 : (x : Int) < 65 := by omega
    have g3 : (x : Int) < 97 := by omega
    have HS := Aside0.mk hs
    clear hs h h2
    go_enter Tryd.func155, Tryd.ntmps155
    go_wp2_with fail
    go_ret
    exact ⟨ret_b (by rw [HS.out]; try (first | rfl | (simp; done) | (simp; omega))), rfl⟩
  · have g1 : (48 : Int) ≤ (x : Int) := by omega
    have g4 : (57 : Int) < (x : Int) := by omega
    have g2 : (x : Int) < 65 := by omega
    have g3 : (x : Int) < 97 := by omega
    have HS := Aside0.mk hs
    clear hs h h2
    go_enter Tryd.func155, Tryd.ntmps155
    go_wp2_with fail
    go_ret
    exact ⟨ret_b (by rw [HS.out]; try (first | rfl | (simp; done) | (simp; omega))), rfl⟩
  · have g2 : (65 : Int) ≤ (x : Int) := by omega
    have g4 : (x : Int) ≤ 90 := by omega
    have g3 : (x : Int) < 97 := by omega
    have HS := Aside0.mk hs
    clear hs h h2
    go_enter Tryd.func155, Tryd.ntmps155
    go_wp2_with fail
    go_ret
    exact ⟨ret_b (by rw [HS.out]; try (first | rfl | (simp; done) | (simp; omega))), rfl⟩
  · have g1 : (48 : Int) ≤ (x : Int) := by omega
    have g5 : (57 : Int) < (x : Int) := by omega
    have g2 : (65 : Int) ≤ (x : Int) := by omega
    have g4 : (90 : Int) < (x : Int) := by omega
    have g3 : (x : Int) < 97 := by omega
    have HS := Aside0.mk hs
    clear hs h h2
    go_enter Tryd.func155, Tryd.ntmps155
    go_wp2_with fail
    go_ret
    exact ⟨ret_b (by rw [HS.out]; try (first | rfl | (simp; done) | (simp; omega))), rfl⟩
  · have g3 : (97 : Int) ≤ (x : Int) := by omega
    have g4 : (x : Int) ≤ 122 := by omega
    have HS := Aside0.mk hs
    clear hs h h2
    go_enter Tryd.func155, Tryd.ntmps155
    go_wp2_with fail
    go_ret
    exact ⟨ret_b (by rw [HS.out]; try (first | rfl | (simp; done) | (simp; omega))), rfl⟩
  · have g1 : (48 : Int) ≤ (x : Int) := by omega
    have g5 : (57 : Int) < (x : Int) := by omega
    have g2 : (65 : Int) ≤ (x : Int) := by omega
    have g4 : (90 : Int) < (x : Int) := by omega
    have g3 : (97 : Int) ≤ (x : Int) := by omega
    have g6 : (122 : Int) < (x : Int) := by omega
    have HS := Aside0.mk hs
    clear hs h
    go_enter Tryd.func155, Tryd.ntmps155
    go_wp2_with fail
    go_ret
    exact ⟨ret_b (by rw [HS.out]; try (first | rfl | (simp; done) | (simp; omega))), rfl⟩
theorem label_no {s : ByteArray} {i : Nat} (hi : i < s.size) (h : alnumB (byteAt s i) = false) : labelB s = false := by
  have : (runes s).all alnumB = false := by
    rw [Bool.eq_false_iff]
    intro hh
    have := (low_runes alnum_low s).1 hh i hi
    rw [h] at this; cases this
  unfold labelB
  rw [this]; simp
theorem label_yes {s : ByteArray} (h : ∀ i, i < s.size → alnumB (byteAt s i) = true) : labelB s = (decide (0 < s.size) && decide (s.size ≤ 8)) := by
  have : (runes s).all alnumB = true := (low_runes alnum_low s).2 h
  unfold labelB
  rw [this]; simp
set_option maxHeartbeats 1000000 in
theorem refLabel_any (s : ByteArray) (w : World) (hs : s.size ≤ 1000) : Calls Tryd.prog 133 #[.string s] w fun e w' => e = .returned (.bool (labelB s)) ∧ w' = w := by
  have HNO := Aside0.mk (fun i (hi : i < s.size) h => label_no (s := s) hi h)
  have HYES := Aside0.mk (fun h => label_yes (s := s) h)
  have CA := Aside0.mk (fun x => alnum_any x w)
  have hs2 : (s.size : Int) ≤ 1000 := by omega
  go_enter Tryd.func133, Tryd.ntmps133
  go_wp2_with fail
  go_loop [3] (fun x => ∃ k : Nat, k ≤ s.size ∧ x = .int .i64 k ∧ Aside0 (∀ i, i < k → alnumB (byteAt s i) = true)) (fun x => s.size - (intOf x).toNat)
  case atStart => exact ⟨0, by omega, rfl, ⟨fun i hi => by omega⟩⟩
  case round =>
    obtain ⟨k, hk, rfl, HK⟩ := hrel
    by_cases hlt : k < s.size
    · have CK := CA.out s[k].toNat
      have hbg := byte_get s k hlt
      cases hc : alnumB (byteAt s k) with
      | true =>
        rw [hbg, hc, ← hbg] at CK
        have CK := Aside0.mk CK
        have HC := Aside0.mk hc
        clear hc hbg
        go_wp2_with (go_at_call 155; (with_reducible refine CK.out.mono ?_); rintro e w1 ⟨rfl, rfl⟩)
        go_round
        case rel => exact ⟨k + 1, by omega, by go_num, ⟨fun i hi => by
          by_cases h : i < k
          · exact HK.out i h
          · obtain rfl : i = k := by omega
            exact HC.out⟩⟩
        case measure => simp [intOf]; omega
      | false =>
        rw [hbg, hc, ← hbg] at CK
        have CK := Aside0.mk CK
        have HC := Aside0.mk (HNO.out k hlt hc)
        clear hc hbg
        go_wp2_with (go_at_call 155; (with_reducible refine CK.out.mono ?_); rintro e w1 ⟨rfl, rfl⟩)
        go_ret
        exact ⟨ret_b HC.out.symm, rfl⟩
    · have hks : k = s.size := by omega
      subst hks
      have HY := Aside0.mk (HYES.out HK.out)
      go_wp2_with fail
      all_goals
        go_ret
        exact ⟨ret_b (by rw [HY.out, Bool.eq_iff_iff]; simp only [Bool.and_eq_true, decide_eq_true_eq, Bool.false_eq_true, false_iff]; omega), rfl⟩
end Go.Proofs.YtbaegfjoionojaaDoor.Tm
