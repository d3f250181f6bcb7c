/- The law TermRunes: which runes may stand in an IRI. -/
import Derived.Test.YtmenjcjpihpjjaaDoorTmU
set_option linter.unusedSimpArgs false
set_option linter.unusedVariables false
namespace Go.Proofs.YtmenjcjpihpjjaaDoor.Tm
open Go Go.RowKit Go.Shelf Go.Proofs.YtmenjcjpihpjjaaDoorW.PrintWords

theorem ir_no {n : Nat} (h : n ≤ 32 ∨ (127 ≤ n ∧ n < 160) ∨ oddB n = true) : iriRuneB n = false := by
  unfold iriRuneB
  rcases h with h | h | h
  · rw [decide_eq_false (show ¬ 32 < n by omega), decide_eq_false (show ¬ 160 ≤ n by omega)]; rfl
  · rw [decide_eq_false (show ¬ n < 127 by omega), decide_eq_false (show ¬ 160 ≤ n by omega)]; simp
  · have : n < 160 := by unfold oddB at h; simp at h; omega
    rw [h, decide_eq_false (show ¬ 160 ≤ n by omega)]; simp
theorem ir_yes {n : Nat} (h : 160 ≤ n ∨ (32 < n ∧ n < 127 ∧ oddB n = false)) : iriRuneB n = true := by
  unfold iriRuneB
  rcases h with h | ⟨h, h', h''⟩
  · rw [decide_eq_true h]; simp
  · rw [decide_eq_true h, decide_eq_true h', h'']; rfl
set_option maxRecDepth 100000 in
set_option maxHeartbeats 16000000 in
theorem runes_walk (c : Int) (w : World) (hT : Tabs w) (h0 : 0 ≤ c) (h1 : c ≤ 1114111) (hn : c < 55296 ∨ 57343 < c) (s : ByteArray) (he : runesBytes [97, c] = s)
    (C3 : Aside0 (∀ W, Tabs W → Calls Tryd.prog 10 #[.agg #[.int .i64 3, .string s, .string ⟨#[]⟩]] W fun e w' => e = .returned (.bool true) ∧ Below W.heap.size W w'))
    (CI : Aside0 (∀ W, Tabs W → Calls Tryd.prog 15 #[.string s] W fun e w' => e = .returned (.bool (iriRuneB c.toNat)) ∧ Below W.heap.size W w')) :
    Calls Tryd.prog 5 #[.int .i32 c] w fun e w' => e = .returned (.bool true) ∧ Below w.heap.size w w' := by
  have CK := Aside0.mk known_any
  obtain ⟨wb, hwb, HB0⟩ : ∃ wb, wb = w.alloc (.cells #[.int .i32 97, .int .i32 c] 21) ∧ Aside0 (Below w.heap.size w wb) := ⟨_, rfl, ⟨below_alloc (Below.refl _ _) _⟩⟩
  have hcv : (convert 32 9 (.slice (some ⟨w.heap.size, 0, none⟩) 2 2)).run Tryd.prog wb = .ok (.string s) wb := by
    have := run_convert_runes (P := Tryd.prog) wb 32 9 21 ⟨w.heap.size, 0, none⟩ 2 2 [97, c] (by simp) Tryd.underlying32 Tryd.underlying21 Tryd.underlying9 (by
      intro j hj
      match j, hj with
      | 0, _ => rw [hwb]; simp [Addr.add]
      | 1, _ => rw [hwb]; simp [Addr.add]
      | j + 2, hj => simp at hj; omega)
    rw [this]
    show Result.ok (Value.string (runesBytes [97, c])) wb = _
    rw [he]
  have HT0 := Aside0.mk (hT.below HB0.out)
  rw [hwb] at hcv HB0 HT0
  clear hwb hT he
  rcases (show c ≤ 32 ∨ (c = 34 ∨ c = 60 ∨ c = 62 ∨ c = 92 ∨ c = 94 ∨ c = 96 ∨ c = 123 ∨ c = 124 ∨ c = 125) ∨ (32 < c ∧ c < 127 ∧ c ≠ 34 ∧ c ≠ 60 ∧ c ≠ 62 ∧ c ≠ 92 ∧ c ≠ 94 ∧ c ≠ 96 ∧ c ≠ 123 ∧ c ≠ 124 ∧ c ≠ 125) ∨ (127 ≤ c ∧ c < 160) ∨ 160 ≤ c by omega) with
    hc | hc | ⟨hc, hc', n0, n1, n2, n3, n4, n5, n6, n7, n8⟩ | ⟨hc, hc'⟩ | hc
  · rw [ir_no (.inl (by omega))] at CI
    have hk : c < 55296 := by omega
    clear hn
    go_enter Tryd.func5, Tryd.ntmps5
    go_wp2_with (first
      | (go_at_call 15; (with_reducible refine (CI.out _ HT0.out).mono ?_); rintro e w1 ⟨rfl, hb⟩; have HB1 := Aside0.mk (below_then HB0.out HB0.out.size hb); have HT1 := Aside0.mk (HT0.out.below hb); clear hb)
      | (go_at_call 10; (with_reducible refine (C3.out _ HT1.out).mono ?_); rintro e w2 ⟨rfl, hb⟩; have HB2 := Aside0.mk (below_then HB1.out HB1.out.size hb); have HT2 := Aside0.mk (HT1.out.below hb); clear hb)
      | (go_at_call 11; (with_reducible refine (CK.out _ HT2.out).mono ?_); rintro e w3 ⟨rfl, hb⟩; have HB3 := Aside0.mk (below_then HB2.out HB2.out.size hb); clear hb))
    go_ret
    exact ⟨ret_b (by first | rfl | (simp; done) | (simp; omega)), HB3.out⟩
  · clear hn h0 h1
    rcases hc with rfl | rfl | rfl | rfl | rfl | rfl | rfl | rfl | rfl
    all_goals
      rw [ir_no (.inr (.inr (by decide)))] at CI
      go_enter Tryd.func5, Tryd.ntmps5
      go_wp2_with (first
        | (go_at_call 15; (with_reducible refine (CI.out _ HT0.out).mono ?_); rintro e w1 ⟨rfl, hb⟩; have HB1 := Aside0.mk (below_then HB0.out HB0.out.size hb); have HT1 := Aside0.mk (HT0.out.below hb); clear hb)
        | (go_at_call 10; (with_reducible refine (C3.out _ HT1.out).mono ?_); rintro e w2 ⟨rfl, hb⟩; have HB2 := Aside0.mk (below_then HB1.out HB1.out.size hb); have HT2 := Aside0.mk (HT1.out.below hb); clear hb)
        | (go_at_call 11; (with_reducible refine (CK.out _ HT2.out).mono ?_); rintro e w3 ⟨rfl, hb⟩; have HB3 := Aside0.mk (below_then HB2.out HB2.out.size hb); clear hb))
      go_ret
      exact ⟨ret_b (by first | rfl | (simp; done) | (simp; omega)), HB3.out⟩
  · rw [ir_yes (.inr ⟨by omega, by omega, by unfold oddB; simp; omega⟩)] at CI
    have hk : c < 55296 := by omega
    have m0 : (c == 34) = false := by rw [beq_eq_false_iff_ne]; omega
    have m1 : (c == 60) = false := by rw [beq_eq_false_iff_ne]; omega
    have m2 : (c == 62) = false := by rw [beq_eq_false_iff_ne]; omega
    have m3 : (c == 92) = false := by rw [beq_eq_false_iff_ne]; omega
    have m4 : (c == 94) = false := by rw [beq_eq_false_iff_ne]; omega
    have m5 : (c == 96) = false := by rw [beq_eq_false_iff_ne]; omega
    have m6 : (c == 123) = false := by rw [beq_eq_false_iff_ne]; omega
    have m7 : (c == 124) = false := by rw [beq_eq_false_iff_ne]; omega
    have m8 : (c == 125) = false := by rw [beq_eq_false_iff_ne]; omega
    clear hn n0 n1 n2 n3 n4 n5 n6 n7 n8
    go_enter Tryd.func5, Tryd.ntmps5
    go_wp2_with (first
      | (go_at_call 15; (with_reducible refine (CI.out _ HT0.out).mono ?_); rintro e w1 ⟨rfl, hb⟩; have HB1 := Aside0.mk (below_then HB0.out HB0.out.size hb); have HT1 := Aside0.mk (HT0.out.below hb); clear hb)
      | (go_at_call 10; (with_reducible refine (C3.out _ HT1.out).mono ?_); rintro e w2 ⟨rfl, hb⟩; have HB2 := Aside0.mk (below_then HB1.out HB1.out.size hb); have HT2 := Aside0.mk (HT1.out.below hb); clear hb)
      | (go_at_call 11; (with_reducible refine (CK.out _ HT2.out).mono ?_); rintro e w3 ⟨rfl, hb⟩; have HB3 := Aside0.mk (below_then HB2.out HB2.out.size hb); clear hb))
    go_ret
    exact ⟨ret_b (by first | rfl | (simp; done) | (simp; omega)), HB3.out⟩
  · rw [ir_no (.inr (.inl (by omega)))] at CI
    have hk : c < 55296 := by omega
    have hl : 32 < c := by omega
    have m0 : (c == 34) = false := by rw [beq_eq_false_iff_ne]; omega
    have m1 : (c == 60) = false := by rw [beq_eq_false_iff_ne]; omega
    have m2 : (c == 62) = false := by rw [beq_eq_false_iff_ne]; omega
    have m3 : (c == 92) = false := by rw [beq_eq_false_iff_ne]; omega
    have m4 : (c == 94) = false := by rw [beq_eq_false_iff_ne]; omega
    have m5 : (c == 96) = false := by rw [beq_eq_false_iff_ne]; omega
    have m6 : (c == 123) = false := by rw [beq_eq_false_iff_ne]; omega
    have m7 : (c == 124) = false := by rw [beq_eq_false_iff_ne]; omega
    have m8 : (c == 125) = false := by rw [beq_eq_false_iff_ne]; omega
    clear hn
    go_enter Tryd.func5, Tryd.ntmps5
    go_wp2_with (first
      | (go_at_call 15; (with_reducible refine (CI.out _ HT0.out).mono ?_); rintro e w1 ⟨rfl, hb⟩; have HB1 := Aside0.mk (below_then HB0.out HB0.out.size hb); have HT1 := Aside0.mk (HT0.out.below hb); clear hb)
      | (go_at_call 10; (with_reducible refine (C3.out _ HT1.out).mono ?_); rintro e w2 ⟨rfl, hb⟩; have HB2 := Aside0.mk (below_then HB1.out HB1.out.size hb); have HT2 := Aside0.mk (HT1.out.below hb); clear hb)
      | (go_at_call 11; (with_reducible refine (CK.out _ HT2.out).mono ?_); rintro e w3 ⟨rfl, hb⟩; have HB3 := Aside0.mk (below_then HB2.out HB2.out.size hb); clear hb))
    go_ret
    exact ⟨ret_b (by first | rfl | (simp; done) | (simp; omega)), HB3.out⟩
  · rw [ir_yes (.inl (by omega))] at CI
    have hl : 32 < c := by omega
    have hm : 127 ≤ c := by omega
    have m0 : (c == 34) = false := by rw [beq_eq_false_iff_ne]; omega
    have m1 : (c == 60) = false := by rw [beq_eq_false_iff_ne]; omega
    have m2 : (c == 62) = false := by rw [beq_eq_false_iff_ne]; omega
    have m3 : (c == 92) = false := by rw [beq_eq_false_iff_ne]; omega
    have m4 : (c == 94) = false := by rw [beq_eq_false_iff_ne]; omega
    have m5 : (c == 96) = false := by rw [beq_eq_false_iff_ne]; omega
    have m6 : (c == 123) = false := by rw [beq_eq_false_iff_ne]; omega
    have m7 : (c == 124) = false := by rw [beq_eq_false_iff_ne]; omega
    have m8 : (c == 125) = false := by rw [beq_eq_false_iff_ne]; omega
    rcases hn with hk | hk
    all_goals
      go_enter Tryd.func5, Tryd.ntmps5
      go_wp2_with (first
        | (go_at_call 15; (with_reducible refine (CI.out _ HT0.out).mono ?_); rintro e w1 ⟨rfl, hb⟩; have HB1 := Aside0.mk (below_then HB0.out HB0.out.size hb); have HT1 := Aside0.mk (HT0.out.below hb); clear hb)
        | (go_at_call 10; (with_reducible refine (C3.out _ HT1.out).mono ?_); rintro e w2 ⟨rfl, hb⟩; have HB2 := Aside0.mk (below_then HB1.out HB1.out.size hb); have HT2 := Aside0.mk (HT1.out.below hb); clear hb)
        | (go_at_call 11; (with_reducible refine (CK.out _ HT2.out).mono ?_); rintro e w3 ⟨rfl, hb⟩; have HB3 := Aside0.mk (below_then HB2.out HB2.out.size hb); clear hb))
      go_ret
      exact ⟨ret_b (by first | rfl | (simp; done) | (simp; omega)), HB3.out⟩
set_option maxRecDepth 100000 in
theorem runes_law (c : Int) (w : World) (_h : (Lit.int .i32 c).wf = true) (hT : Tabs w) : Calls Tryd.prog 5 #[.int .i32 c] w fun e w' => e = .returned (.bool true) ∧ Below w.heap.size w w' := by
  by_cases h0 : c < 0
  · clear _h
    go_enter Tryd.func5, Tryd.ntmps5
    go_wp2
    go_ret
    exact ⟨rfl, Below.refl _ _⟩
  by_cases h1 : 1114111 < c
  · have g0 : 0 ≤ c := by omega
    clear _h h0
    go_enter Tryd.func5, Tryd.ntmps5
    go_wp2
    go_ret
    exact ⟨rfl, Below.refl _ _⟩
  have g0 : 0 ≤ c := by omega
  have g1 : c ≤ 1114111 := by omega
  by_cases h2 : 55296 ≤ c ∧ c ≤ 57343
  · obtain ⟨h2, h3⟩ := h2
    clear _h h0 h1
    go_enter Tryd.func5, Tryd.ntmps5
    go_wp2
    go_ret
    exact ⟨rfl, Below.refl _ _⟩
  obtain ⟨s, he, hs, hv, hr⟩ := two_runes c.toNat (by omega) (by omega)
  rw [show ((c.toNat : Nat) : Int) = c by omega] at he
  have hp : 0 < s.size := by
    refine Nat.pos_of_ne_zero fun h => ?_
    rw [empty_list h] at hr
    exact absurd hr (by unfold runes; intro e; cases e)
  refine runes_walk c w hT g0 g1 (by omega) s he ⟨fun W h => ?_⟩ ⟨fun W h => ?_⟩
  · have := is_any ⟨3, s, ⟨#[]⟩⟩ W (by show s.size ≤ 1000; omega) (by show 0 ≤ 1000; decide) h
    rwa [two_is hs hv] at this
  · have := iri_any s W (by omega) h
    rwa [two_iri hs hp hv hr] at this
end Go.Proofs.YtmenjcjpihpjjaaDoor.Tm
