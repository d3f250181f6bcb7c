/- The walk of the law DoubleSigns. -/
import Derived.Test.YtmenjcjpihpjjaaWords
import Derived.Test.YtmenjcjpihpjjaaLawTellsD
set_option linter.unusedSimpArgs false
set_option linter.unusedVariables false
namespace Go.Proofs.Ytmenjcjpihpjjaa.Fb
open Go Go.RowKit Go.Proofs.YtmenjcjpihpjjaaW.PrintWords Go.Proofs.YtmenjcjpihpjjaaW.PrintLast Go.Proofs.YtmenjcjpihpjjaaW.PrintMore
attribute [local go_sem] max2_int min2_int max_two min_two
attribute [local go_sem] run_from run_bits run_neg

theorem ahead_list (c : UInt8) (s : ByteArray) : ((⟨#[c]⟩ : ByteArray) ++ s).data.toList = c :: s.data.toList := by
  rw [ByteArray.data_append, Array.toList_append]; rfl
theorem ahead_size (c : UInt8) (s : ByteArray) : ((⟨#[c]⟩ : ByteArray) ++ s).size = 1 + s.size := by
  rw [← toList_size, ahead_list, List.length_cons, toList_size]; omega
set_option maxHeartbeats 1000000 in
theorem signs_law (s t : ByteArray) (w : World) (hs1 : s.size ≤ maxLen) (hs : s.size ≤ 140737488351232) (ht1 : t.size ≤ maxLen) (ht : t.size ≤ 140737488351232) :
    Calls Try.prog 11 #[.string s, .string t] w fun e w' => e = .returned (.bool true) ∧ Below w.heap.size w w' := by
  have CK := Aside0.mk known_any
  by_cases h1 : s.size ≤ 60
  · by_cases h2 : t.size ≤ 60
    · have R1 := fun w => refParse_any ((⟨#[43]⟩ : ByteArray) ++ s) (by rw [ahead_size]; omega) w
      have R2 := fun w => refParse_any ((⟨#[43]⟩ : ByteArray) ++ t) (by rw [ahead_size]; omega) w
      have P1 := fun w => parse_any ((⟨#[45]⟩ : ByteArray) ++ s) (by rw [ahead_size]; omega) w
      have P2 := fun w => parse_any ((⟨#[45]⟩ : ByteArray) ++ t) (by rw [ahead_size]; omega) w
      rw [ahead_list] at R1 R2 P1 P2
      rw [parse_minus] at P1 P2
      cases hv : parseL (43 :: s.data.toList) with
      | none =>
        rw [hv] at R1
        have C1 := Aside0.mk R1
        have C2 := Aside0.mk R2
        clear R1 R2 P1 P2 hv
        unfold PlainP at C2
        generalize (parseL (43 :: t.data.toList)).getD 0 = z1 at *
        generalize (parseL (43 :: t.data.toList)).isSome = z2 at *
        go_enter Try.func11, Try.ntmps11
        go_wp2_with fail
        refine (C1.out _).mono ?_
        rintro e w1 ⟨rfl, hb1⟩
        have HB1 := Aside0.mk hb1
        clear hb1
        go_wp2_with fail
        refine (C2.out _).mono ?_
        rintro e w2 ⟨rfl, hb2⟩
        have HB2 := Aside0.mk (below_two HB1.out hb2)
        clear hb2
        go_wp2_with fail
        go_ret
        exact ⟨rfl, HB2.out⟩
      | some a =>
        have la := plus_le hv
        rw [hv] at R1 P1
        cases hu : parseL (43 :: t.data.toList) with
        | none =>
          rw [hu] at R2
          have C1 := Aside0.mk R1
          have C2 := Aside0.mk R2
          clear R1 R2 P1 P2 hv hu
          go_enter Try.func11, Try.ntmps11
          go_wp2_with fail
          refine (C1.out _).mono ?_
          rintro e w1 ⟨rfl, hb1⟩
          have HB1 := Aside0.mk hb1
          clear hb1
          go_wp2_with fail
          refine (C2.out _).mono ?_
          rintro e w2 ⟨rfl, hb2⟩
          have HB2 := Aside0.mk (below_two HB1.out hb2)
          clear hb2
          go_wp2_with fail
          go_ret
          exact ⟨rfl, HB2.out⟩
        | some b =>
          have lb := plus_le hu
          rw [hu] at R2 P2
          have na : negF a < 18446744073709551616 := by rw [negF_add a (by omega)]; omega
          have nb : negF b < 18446744073709551616 := by rw [negF_add b (by omega)]; omega
          have S1 := same_any (negF a) (negF a) na na
          have S2 := same_any (negF b) (negF b) nb nb
          rw [ordK_self] at S1 S2
          have O1 := order_K (negF a) (negF b) na nb
          have O2 := order_K a b (by omega) (by omega)
          rw [ordK_neg la lb] at O1
          obtain ⟨p1, p2⟩ := ordK_range a b
          generalize ordK a b = O at *
          have C1 := Aside0.mk R1
          have C2 := Aside0.mk R2
          have C3 := Aside0.mk P1
          have C4 := Aside0.mk P2
          have C5 := Aside0.mk S1
          have C6 := Aside0.mk S2
          have C7 := Aside0.mk O1
          have C8 := Aside0.mk O2
          clear R1 R2 P1 P2 S1 S2 O1 O2 hv hu na nb la lb
          go_enter Try.func11, Try.ntmps11
          go_wp2_with fail
          refine (C1.out _).mono ?_
          rintro e w1 ⟨rfl, hb1⟩
          have HB1 := Aside0.mk hb1
          clear hb1
          go_wp2_with fail
          refine (C2.out _).mono ?_
          rintro e w2 ⟨rfl, hb2⟩
          have HB2 := Aside0.mk (below_two HB1.out hb2)
          clear hb2
          go_wp2_with fail
          refine (C3.out _).mono ?_
          rintro e w3 ⟨rfl, hb3⟩
          have HB3 := Aside0.mk (below_two HB2.out hb3)
          clear hb3
          go_wp2_with fail
          refine (C4.out _).mono ?_
          rintro e w4 ⟨rfl, hb4⟩
          have HB4 := Aside0.mk (below_two HB3.out hb4)
          clear hb4
          go_wp2_with fail
          refine (C5.out _).mono ?_
          rintro e w5 ⟨rfl, rfl⟩
          go_wp2_with fail
          refine (C6.out _).mono ?_
          rintro e w5 ⟨rfl, rfl⟩
          go_wp2_with fail
          refine (C7.out _).mono ?_
          rintro e w5 ⟨rfl, rfl⟩
          go_wp2_with fail
          refine (C8.out _).mono ?_
          rintro e w5 ⟨rfl, rfl⟩
          go_wp2_with fail
          refine (CK.out _).mono ?_
          rintro e w6 ⟨rfl, hb6⟩
          have HB6 := Aside0.mk (below_two HB4.out hb6)
          clear hb6
          go_wp2_with fail
          go_ret
          exact ⟨rfl, HB6.out⟩
    · have h3 : 60 < t.size := by omega
      go_enter Try.func11, Try.ntmps11
      go_wp2_with fail
      go_ret
      exact ⟨rfl, Below.refl _ _⟩
  · have h3 : 60 < s.size := by omega
    go_enter Try.func11, Try.ntmps11
    go_wp2_with fail
    go_ret
    exact ⟨rfl, Below.refl _ _⟩
end Go.Proofs.Ytmenjcjpihpjjaa.Fb
