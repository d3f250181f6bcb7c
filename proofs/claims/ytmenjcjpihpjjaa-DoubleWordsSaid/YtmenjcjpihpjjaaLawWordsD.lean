/- The walk of the law DoubleWords. -/
import Derived.Test.YtmenjcjpihpjjaaLawTens
set_option linter.unusedSimpArgs false
set_option linter.unusedVariables false
namespace Go.Proofs.Ytmenjcjpihpjjaa.Fb
open Go Go.RowKit Go.Proofs.YtmenjcjpihpjjaaW.PrintWords Go.Proofs.YtmenjcjpihpjjaaW.PrintLast Go.Proofs.YtmenjcjpihpjjaaW.PrintMore
attribute [local go_sem] max2_int min2_int max_two min_two
attribute [local go_sem] run_from run_bits run_neg

theorem isinf_pos (w : World) : Calls Try.prog 20 #[.float .f64 9218868437227405312, .int .i64 1] w fun e w' => e = .returned (.bool true) ∧ w = w' := by
  have q : (FloatKind.f64.format.order 9218868437227405312 9218868437227405311 == some Ordering.gt) = true := by decide +kernel
  go_enter Try.func20, Try.ntmps20
  go_wp2_with fail
  go_ret
  exact ⟨rfl, rfl⟩
theorem isinf_neg (w : World) : Calls Try.prog 20 #[.float .f64 18442240474082181120, .int .i64 (-1)] w fun e w' => e = .returned (.bool true) ∧ w = w' := by
  have n : negF 18442240474082181120 = 9218868437227405312 := by decide +kernel
  have q : (FloatKind.f64.format.order 9218868437227405312 9218868437227405311 == some Ordering.gt) = true := by decide +kernel
  go_enter Try.func20, Try.ntmps20
  go_wp2_with fail
  go_ret
  exact ⟨rfl, rfl⟩
theorem words_below {w w1 w2 : World} {o : Obj} (h1 : Below (w.alloc o).heap.size (w.alloc o) w1) (h2 : Below w1.heap.size w1 w2) : Below w.heap.size w w2 :=
  below_two (((Below.refl w.heap.size w).alloc (Nat.le_refl _) o).trans (h1.mono (by simp))) h2
theorem words_none (l : List UInt8) (hv : parseL l = none) (hs : l.length ≤ 200) (w : World) : Calls Try.prog 16 #[.string ⟨l.toArray⟩] w (PlainP w none) := by
  have h := parse_at l hs w
  rw [hv] at h
  exact h
theorem words_some (l : List UInt8) (r : Nat) (hv : parseL l = some r) (hs : l.length ≤ 200) (w : World) : Calls Try.prog 16 #[.string ⟨l.toArray⟩] w (PlainP w (some r)) := by
  have h := parse_at l hs w
  rw [hv] at h
  exact h
set_option maxRecDepth 100000 in
theorem words_0 (w : World) : Calls Try.prog 8 #[.int .i64 0] w fun e w' => e = .returned (.bool true) ∧ Below w.heap.size w w' := by
  have CK := Aside0.mk known_any
  have P1 := Aside0.mk (words_some [73, 78, 70] 9218868437227405312 (by decide +kernel) (by decide))
  have CI := Aside0.mk isinf_pos
  go_enter Try.func8, Try.ntmps8
  go_wp2_with fail
  refine (P1.out _).mono ?_
  rintro e w1 ⟨rfl, hb1⟩
  have HB1 := Aside0.mk hb1
  clear hb1
  go_wp2_with fail
  refine (CI.out _).mono ?_
  rintro e w5 ⟨rfl, rfl⟩
  go_wp2_with fail
  refine (CK.out _).mono ?_
  rintro e w2 ⟨rfl, hb2⟩
  have HB2 := Aside0.mk hb2
  clear hb2
  go_wp2_with fail
  go_ret
  exact ⟨rfl, words_below HB1.out HB2.out⟩
set_option maxRecDepth 100000 in
theorem words_1 (w : World) : Calls Try.prog 8 #[.int .i64 1] w fun e w' => e = .returned (.bool true) ∧ Below w.heap.size w w' := by
  have CK := Aside0.mk known_any
  have P1 := Aside0.mk (words_some [43, 73, 78, 70] 9218868437227405312 (by decide +kernel) (by decide))
  have CI := Aside0.mk isinf_pos
  go_enter Try.func8, Try.ntmps8
  go_wp2_with fail
  refine (P1.out _).mono ?_
  rintro e w1 ⟨rfl, hb1⟩
  have HB1 := Aside0.mk hb1
  clear hb1
  go_wp2_with fail
  refine (CI.out _).mono ?_
  rintro e w5 ⟨rfl, rfl⟩
  go_wp2_with fail
  refine (CK.out _).mono ?_
  rintro e w2 ⟨rfl, hb2⟩
  have HB2 := Aside0.mk hb2
  clear hb2
  go_wp2_with fail
  go_ret
  exact ⟨rfl, words_below HB1.out HB2.out⟩
set_option maxRecDepth 100000 in
theorem words_2 (w : World) : Calls Try.prog 8 #[.int .i64 2] w fun e w' => e = .returned (.bool true) ∧ Below w.heap.size w w' := by
  have CK := Aside0.mk known_any
  have P1 := Aside0.mk (words_some [45, 73, 78, 70] 18442240474082181120 (by decide +kernel) (by decide))
  have CI := Aside0.mk isinf_neg
  go_enter Try.func8, Try.ntmps8
  go_wp2_with fail
  refine (P1.out _).mono ?_
  rintro e w1 ⟨rfl, hb1⟩
  have HB1 := Aside0.mk hb1
  clear hb1
  go_wp2_with fail
  refine (CI.out _).mono ?_
  rintro e w5 ⟨rfl, rfl⟩
  go_wp2_with fail
  refine (CK.out _).mono ?_
  rintro e w2 ⟨rfl, hb2⟩
  have HB2 := Aside0.mk hb2
  clear hb2
  go_wp2_with fail
  go_ret
  exact ⟨rfl, words_below HB1.out HB2.out⟩
set_option maxRecDepth 100000 in
theorem words_3 (w : World) : Calls Try.prog 8 #[.int .i64 3] w fun e w' => e = .returned (.bool true) ∧ Below w.heap.size w w' := by
  have CK := Aside0.mk known_any
  have P1 := Aside0.mk (words_some [78, 97, 78] 9221120237041090561 (by decide +kernel) (by decide))
  have q : (FloatKind.f64.format.order 9221120237041090561 9221120237041090561 != some Ordering.eq) = true := by decide +kernel
  go_enter Try.func8, Try.ntmps8
  go_wp2_with fail
  refine (P1.out _).mono ?_
  rintro e w1 ⟨rfl, hb1⟩
  have HB1 := Aside0.mk hb1
  clear hb1
  go_wp2_with fail
  refine (CK.out _).mono ?_
  rintro e w2 ⟨rfl, hb2⟩
  have HB2 := Aside0.mk hb2
  clear hb2
  go_wp2_with fail
  go_ret
  exact ⟨rfl, words_below HB1.out HB2.out⟩
set_option maxRecDepth 100000 in
theorem words_4 (w : World) : Calls Try.prog 8 #[.int .i64 4] w fun e w' => e = .returned (.bool true) ∧ Below w.heap.size w w' := by
  have CK := Aside0.mk known_any
  have P1 := Aside0.mk (words_none [105, 110, 102] (by decide +kernel) (by decide))
  have q : (FloatKind.f64.format.order 0 0 == some Ordering.eq) = true := by decide +kernel
  go_enter Try.func8, Try.ntmps8
  go_wp2_with fail
  refine (P1.out _).mono ?_
  rintro e w1 ⟨rfl, hb1⟩
  have HB1 := Aside0.mk hb1
  clear hb1
  go_wp2_with fail
  refine (CK.out _).mono ?_
  rintro e w2 ⟨rfl, hb2⟩
  have HB2 := Aside0.mk hb2
  clear hb2
  go_wp2_with fail
  go_ret
  exact ⟨rfl, words_below HB1.out HB2.out⟩
set_option maxRecDepth 100000 in
theorem words_5 (w : World) : Calls Try.prog 8 #[.int .i64 5] w fun e w' => e = .returned (.bool true) ∧ Below w.heap.size w w' := by
  have CK := Aside0.mk known_any
  have P1 := Aside0.mk (words_none [45, 78, 97, 78] (by decide +kernel) (by decide))
  have q : (FloatKind.f64.format.order 0 0 == some Ordering.eq) = true := by decide +kernel
  go_enter Try.func8, Try.ntmps8
  go_wp2_with fail
  refine (P1.out _).mono ?_
  rintro e w1 ⟨rfl, hb1⟩
  have HB1 := Aside0.mk hb1
  clear hb1
  go_wp2_with fail
  refine (CK.out _).mono ?_
  rintro e w2 ⟨rfl, hb2⟩
  have HB2 := Aside0.mk hb2
  clear hb2
  go_wp2_with fail
  go_ret
  exact ⟨rfl, words_below HB1.out HB2.out⟩
set_option maxRecDepth 100000 in
theorem words_6 (w : World) : Calls Try.prog 8 #[.int .i64 6] w fun e w' => e = .returned (.bool true) ∧ Below w.heap.size w w' := by
  have CK := Aside0.mk known_any
  have P1 := Aside0.mk (words_none [43, 78, 97, 78] (by decide +kernel) (by decide))
  have q : (FloatKind.f64.format.order 0 0 == some Ordering.eq) = true := by decide +kernel
  go_enter Try.func8, Try.ntmps8
  go_wp2_with fail
  refine (P1.out _).mono ?_
  rintro e w1 ⟨rfl, hb1⟩
  have HB1 := Aside0.mk hb1
  clear hb1
  go_wp2_with fail
  refine (CK.out _).mono ?_
  rintro e w2 ⟨rfl, hb2⟩
  have HB2 := Aside0.mk hb2
  clear hb2
  go_wp2_with fail
  go_ret
  exact ⟨rfl, words_below HB1.out HB2.out⟩
set_option maxRecDepth 100000 in
theorem words_7 (w : World) : Calls Try.prog 8 #[.int .i64 7] w fun e w' => e = .returned (.bool true) ∧ Below w.heap.size w w' := by
  have CK := Aside0.mk known_any
  have P1 := Aside0.mk (words_none [] (by decide +kernel) (by decide))
  have q : (FloatKind.f64.format.order 0 0 == some Ordering.eq) = true := by decide +kernel
  go_enter Try.func8, Try.ntmps8
  go_wp2_with fail
  refine (P1.out _).mono ?_
  rintro e w1 ⟨rfl, hb1⟩
  have HB1 := Aside0.mk hb1
  clear hb1
  go_wp2_with fail
  refine (CK.out _).mono ?_
  rintro e w2 ⟨rfl, hb2⟩
  have HB2 := Aside0.mk hb2
  clear hb2
  go_wp2_with fail
  go_ret
  exact ⟨rfl, words_below HB1.out HB2.out⟩
set_option maxRecDepth 100000 in
theorem words_8 (w : World) : Calls Try.prog 8 #[.int .i64 8] w fun e w' => e = .returned (.bool true) ∧ Below w.heap.size w w' := by
  have CK := Aside0.mk known_any
  have P1 := Aside0.mk (words_none [43] (by decide +kernel) (by decide))
  have q : (FloatKind.f64.format.order 0 0 == some Ordering.eq) = true := by decide +kernel
  go_enter Try.func8, Try.ntmps8
  go_wp2_with fail
  refine (P1.out _).mono ?_
  rintro e w1 ⟨rfl, hb1⟩
  have HB1 := Aside0.mk hb1
  clear hb1
  go_wp2_with fail
  refine (CK.out _).mono ?_
  rintro e w2 ⟨rfl, hb2⟩
  have HB2 := Aside0.mk hb2
  clear hb2
  go_wp2_with fail
  go_ret
  exact ⟨rfl, words_below HB1.out HB2.out⟩
set_option maxRecDepth 100000 in
theorem words_9 (w : World) : Calls Try.prog 8 #[.int .i64 9] w fun e w' => e = .returned (.bool true) ∧ Below w.heap.size w w' := by
  have CK := Aside0.mk known_any
  have P1 := Aside0.mk (words_none [46] (by decide +kernel) (by decide))
  have q : (FloatKind.f64.format.order 0 0 == some Ordering.eq) = true := by decide +kernel
  go_enter Try.func8, Try.ntmps8
  go_wp2_with fail
  refine (P1.out _).mono ?_
  rintro e w1 ⟨rfl, hb1⟩
  have HB1 := Aside0.mk hb1
  clear hb1
  go_wp2_with fail
  refine (CK.out _).mono ?_
  rintro e w2 ⟨rfl, hb2⟩
  have HB2 := Aside0.mk hb2
  clear hb2
  go_wp2_with fail
  go_ret
  exact ⟨rfl, words_below HB1.out HB2.out⟩
set_option maxRecDepth 100000 in
theorem words_10 (w : World) : Calls Try.prog 8 #[.int .i64 10] w fun e w' => e = .returned (.bool true) ∧ Below w.heap.size w w' := by
  have CK := Aside0.mk known_any
  have P1 := Aside0.mk (words_none [101, 49] (by decide +kernel) (by decide))
  have q : (FloatKind.f64.format.order 0 0 == some Ordering.eq) = true := by decide +kernel
  go_enter Try.func8, Try.ntmps8
  go_wp2_with fail
  refine (P1.out _).mono ?_
  rintro e w1 ⟨rfl, hb1⟩
  have HB1 := Aside0.mk hb1
  clear hb1
  go_wp2_with fail
  refine (CK.out _).mono ?_
  rintro e w2 ⟨rfl, hb2⟩
  have HB2 := Aside0.mk hb2
  clear hb2
  go_wp2_with fail
  go_ret
  exact ⟨rfl, words_below HB1.out HB2.out⟩
set_option maxRecDepth 100000 in
theorem words_11 (w : World) : Calls Try.prog 8 #[.int .i64 11] w fun e w' => e = .returned (.bool true) ∧ Below w.heap.size w w' := by
  have CK := Aside0.mk known_any
  have P1 := Aside0.mk (words_none [49, 101] (by decide +kernel) (by decide))
  have q : (FloatKind.f64.format.order 0 0 == some Ordering.eq) = true := by decide +kernel
  go_enter Try.func8, Try.ntmps8
  go_wp2_with fail
  refine (P1.out _).mono ?_
  rintro e w1 ⟨rfl, hb1⟩
  have HB1 := Aside0.mk hb1
  clear hb1
  go_wp2_with fail
  refine (CK.out _).mono ?_
  rintro e w2 ⟨rfl, hb2⟩
  have HB2 := Aside0.mk hb2
  clear hb2
  go_wp2_with fail
  go_ret
  exact ⟨rfl, words_below HB1.out HB2.out⟩
set_option maxRecDepth 100000 in
theorem words_12 (w : World) : Calls Try.prog 8 #[.int .i64 12] w fun e w' => e = .returned (.bool true) ∧ Below w.heap.size w w' := by
  have CK := Aside0.mk known_any
  have P1 := Aside0.mk (words_none [49, 101, 43] (by decide +kernel) (by decide))
  have q : (FloatKind.f64.format.order 0 0 == some Ordering.eq) = true := by decide +kernel
  go_enter Try.func8, Try.ntmps8
  go_wp2_with fail
  refine (P1.out _).mono ?_
  rintro e w1 ⟨rfl, hb1⟩
  have HB1 := Aside0.mk hb1
  clear hb1
  go_wp2_with fail
  refine (CK.out _).mono ?_
  rintro e w2 ⟨rfl, hb2⟩
  have HB2 := Aside0.mk hb2
  clear hb2
  go_wp2_with fail
  go_ret
  exact ⟨rfl, words_below HB1.out HB2.out⟩
set_option maxRecDepth 100000 in
theorem words_13 (w : World) : Calls Try.prog 8 #[.int .i64 13] w fun e w' => e = .returned (.bool true) ∧ Below w.heap.size w w' := by
  have CK := Aside0.mk known_any
  have P1 := Aside0.mk (words_none [49, 32] (by decide +kernel) (by decide))
  have q : (FloatKind.f64.format.order 0 0 == some Ordering.eq) = true := by decide +kernel
  go_enter Try.func8, Try.ntmps8
  go_wp2_with fail
  refine (P1.out _).mono ?_
  rintro e w1 ⟨rfl, hb1⟩
  have HB1 := Aside0.mk hb1
  clear hb1
  go_wp2_with fail
  refine (CK.out _).mono ?_
  rintro e w2 ⟨rfl, hb2⟩
  have HB2 := Aside0.mk hb2
  clear hb2
  go_wp2_with fail
  go_ret
  exact ⟨rfl, words_below HB1.out HB2.out⟩
set_option maxRecDepth 100000 in
theorem words_14 (w : World) : Calls Try.prog 8 #[.int .i64 14] w fun e w' => e = .returned (.bool true) ∧ Below w.heap.size w w' := by
  have CK := Aside0.mk known_any
  have P1 := Aside0.mk (words_none [32, 49] (by decide +kernel) (by decide))
  have q : (FloatKind.f64.format.order 0 0 == some Ordering.eq) = true := by decide +kernel
  go_enter Try.func8, Try.ntmps8
  go_wp2_with fail
  refine (P1.out _).mono ?_
  rintro e w1 ⟨rfl, hb1⟩
  have HB1 := Aside0.mk hb1
  clear hb1
  go_wp2_with fail
  refine (CK.out _).mono ?_
  rintro e w2 ⟨rfl, hb2⟩
  have HB2 := Aside0.mk hb2
  clear hb2
  go_wp2_with fail
  go_ret
  exact ⟨rfl, words_below HB1.out HB2.out⟩
set_option maxRecDepth 100000 in
theorem words_15 (w : World) : Calls Try.prog 8 #[.int .i64 15] w fun e w' => e = .returned (.bool true) ∧ Below w.heap.size w w' := by
  have CK := Aside0.mk known_any
  have P1 := Aside0.mk (words_none [48, 120, 49] (by decide +kernel) (by decide))
  have q : (FloatKind.f64.format.order 0 0 == some Ordering.eq) = true := by decide +kernel
  go_enter Try.func8, Try.ntmps8
  go_wp2_with fail
  refine (P1.out _).mono ?_
  rintro e w1 ⟨rfl, hb1⟩
  have HB1 := Aside0.mk hb1
  clear hb1
  go_wp2_with fail
  refine (CK.out _).mono ?_
  rintro e w2 ⟨rfl, hb2⟩
  have HB2 := Aside0.mk hb2
  clear hb2
  go_wp2_with fail
  go_ret
  exact ⟨rfl, words_below HB1.out HB2.out⟩
set_option maxRecDepth 100000 in
theorem words_16 (w : World) : Calls Try.prog 8 #[.int .i64 16] w fun e w' => e = .returned (.bool true) ∧ Below w.heap.size w w' := by
  have CK := Aside0.mk known_any
  have P1 := Aside0.mk (words_none [49, 95, 48] (by decide +kernel) (by decide))
  have q : (FloatKind.f64.format.order 0 0 == some Ordering.eq) = true := by decide +kernel
  go_enter Try.func8, Try.ntmps8
  go_wp2_with fail
  refine (P1.out _).mono ?_
  rintro e w1 ⟨rfl, hb1⟩
  have HB1 := Aside0.mk hb1
  clear hb1
  go_wp2_with fail
  refine (CK.out _).mono ?_
  rintro e w2 ⟨rfl, hb2⟩
  have HB2 := Aside0.mk hb2
  clear hb2
  go_wp2_with fail
  go_ret
  exact ⟨rfl, words_below HB1.out HB2.out⟩
set_option maxRecDepth 100000 in
theorem words_17 (w : World) : Calls Try.prog 8 #[.int .i64 17] w fun e w' => e = .returned (.bool true) ∧ Below w.heap.size w w' := by
  have CK := Aside0.mk known_any
  have P1 := Aside0.mk (words_none [45, 45, 49] (by decide +kernel) (by decide))
  have q : (FloatKind.f64.format.order 0 0 == some Ordering.eq) = true := by decide +kernel
  go_enter Try.func8, Try.ntmps8
  go_wp2_with fail
  refine (P1.out _).mono ?_
  rintro e w1 ⟨rfl, hb1⟩
  have HB1 := Aside0.mk hb1
  clear hb1
  go_wp2_with fail
  refine (CK.out _).mono ?_
  rintro e w2 ⟨rfl, hb2⟩
  have HB2 := Aside0.mk hb2
  clear hb2
  go_wp2_with fail
  go_ret
  exact ⟨rfl, words_below HB1.out HB2.out⟩
set_option maxRecDepth 100000 in
theorem words_18 (w : World) : Calls Try.prog 8 #[.int .i64 18] w fun e w' => e = .returned (.bool true) ∧ Below w.heap.size w w' := by
  have CK := Aside0.mk known_any
  have P1 := Aside0.mk (words_some [49, 46, 101, 49] 4621819117588971520 (by decide +kernel) (by decide))
  go_enter Try.func8, Try.ntmps8
  go_wp2_with fail
  refine (P1.out _).mono ?_
  rintro e w1 ⟨rfl, hb1⟩
  have HB1 := Aside0.mk hb1
  clear hb1
  go_wp2_with fail
  refine (CK.out _).mono ?_
  rintro e w2 ⟨rfl, hb2⟩
  have HB2 := Aside0.mk hb2
  clear hb2
  go_wp2_with fail
  go_ret
  exact ⟨rfl, words_below HB1.out HB2.out⟩
set_option maxRecDepth 100000 in
theorem words_19 (w : World) : Calls Try.prog 8 #[.int .i64 19] w fun e w' => e = .returned (.bool true) ∧ Below w.heap.size w w' := by
  have CK := Aside0.mk known_any
  have P1 := Aside0.mk (words_some [46, 53] 4602678819172646912 (by decide +kernel) (by decide))
  go_enter Try.func8, Try.ntmps8
  go_wp2_with fail
  refine (P1.out _).mono ?_
  rintro e w1 ⟨rfl, hb1⟩
  have HB1 := Aside0.mk hb1
  clear hb1
  go_wp2_with fail
  refine (CK.out _).mono ?_
  rintro e w2 ⟨rfl, hb2⟩
  have HB2 := Aside0.mk hb2
  clear hb2
  go_wp2_with fail
  go_ret
  exact ⟨rfl, words_below HB1.out HB2.out⟩
set_option maxRecDepth 100000 in
theorem words_20 (w : World) : Calls Try.prog 8 #[.int .i64 20] w fun e w' => e = .returned (.bool true) ∧ Below w.heap.size w w' := by
  have CK := Aside0.mk known_any
  have P1 := Aside0.mk (words_some [53, 46] 4617315517961601024 (by decide +kernel) (by decide))
  go_enter Try.func8, Try.ntmps8
  go_wp2_with fail
  refine (P1.out _).mono ?_
  rintro e w1 ⟨rfl, hb1⟩
  have HB1 := Aside0.mk hb1
  clear hb1
  go_wp2_with fail
  refine (CK.out _).mono ?_
  rintro e w2 ⟨rfl, hb2⟩
  have HB2 := Aside0.mk hb2
  clear hb2
  go_wp2_with fail
  go_ret
  exact ⟨rfl, words_below HB1.out HB2.out⟩
set_option maxRecDepth 100000 in
theorem words_21 (w : World) : Calls Try.prog 8 #[.int .i64 21] w fun e w' => e = .returned (.bool true) ∧ Below w.heap.size w w' := by
  have CK := Aside0.mk known_any
  have P1 := Aside0.mk (words_none [49, 101, 48, 48, 48, 49] (by decide +kernel) (by decide))
  have q : (FloatKind.f64.format.order 0 0 == some Ordering.eq) = true := by decide +kernel
  go_enter Try.func8, Try.ntmps8
  go_wp2_with fail
  refine (P1.out _).mono ?_
  rintro e w1 ⟨rfl, hb1⟩
  have HB1 := Aside0.mk hb1
  clear hb1
  go_wp2_with fail
  refine (CK.out _).mono ?_
  rintro e w2 ⟨rfl, hb2⟩
  have HB2 := Aside0.mk hb2
  clear hb2
  go_wp2_with fail
  go_ret
  exact ⟨rfl, words_below HB1.out HB2.out⟩
set_option maxRecDepth 100000 in
theorem words_22 (w : World) : Calls Try.prog 8 #[.int .i64 22] w fun e w' => e = .returned (.bool true) ∧ Below w.heap.size w w' := by
  have CK := Aside0.mk known_any
  have P1 := Aside0.mk (words_some [49, 101, 48, 48, 48] 4607182418800017408 (by decide +kernel) (by decide))
  go_enter Try.func8, Try.ntmps8
  go_wp2_with fail
  refine (P1.out _).mono ?_
  rintro e w1 ⟨rfl, hb1⟩
  have HB1 := Aside0.mk hb1
  clear hb1
  go_wp2_with fail
  refine (CK.out _).mono ?_
  rintro e w2 ⟨rfl, hb2⟩
  have HB2 := Aside0.mk hb2
  clear hb2
  go_wp2_with fail
  go_ret
  exact ⟨rfl, words_below HB1.out HB2.out⟩
set_option maxRecDepth 100000 in
theorem words_law (n : Int) (w : World) (hn : (Lit.int .i64 n).wf = true) :
    Calls Try.prog 8 #[.int .i64 n] w fun e w' => e = .returned (.bool true) ∧ Below w.heap.size w w' := by
  by_cases h1 : 0 ≤ n ∧ n ≤ 22
  · obtain ⟨k, rfl⟩ := Int.eq_ofNat_of_zero_le h1.1
    have hk : k = 0 ∨ k = 1 ∨ k = 2 ∨ k = 3 ∨ k = 4 ∨ k = 5 ∨ k = 6 ∨ k = 7 ∨ k = 8 ∨ k = 9 ∨ k = 10 ∨ k = 11 ∨ k = 12 ∨ k = 13 ∨ k = 14 ∨ k = 15 ∨ k = 16 ∨ k = 17 ∨ k = 18 ∨ k = 19 ∨ k = 20 ∨ k = 21 ∨ k = 22 := by omega
    rcases hk with rfl | rfl | rfl | rfl | rfl | rfl | rfl | rfl | rfl | rfl | rfl | rfl | rfl | rfl | rfl | rfl | rfl | rfl | rfl | rfl | rfl | rfl | rfl
    · exact words_0 w
    · exact words_1 w
    · exact words_2 w
    · exact words_3 w
    · exact words_4 w
    · exact words_5 w
    · exact words_6 w
    · exact words_7 w
    · exact words_8 w
    · exact words_9 w
    · exact words_10 w
    · exact words_11 w
    · exact words_12 w
    · exact words_13 w
    · exact words_14 w
    · exact words_15 w
    · exact words_16 w
    · exact words_17 w
    · exact words_18 w
    · exact words_19 w
    · exact words_20 w
    · exact words_21 w
    · exact words_22 w
  · have h : n < 0 ∨ (0 ≤ n ∧ 23 ≤ n) := by omega
    clear h1
    rcases h with h | ⟨h, h2⟩
    all_goals
      go_enter Try.func8, Try.ntmps8
      go_wp2_with fail
      go_ret
      exact ⟨rfl, (Below.refl w.heap.size w).alloc (Nat.le_refl _) _⟩
end Go.Proofs.Ytmenjcjpihpjjaa.Fb
