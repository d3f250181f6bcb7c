/- The walks of the laws DoubleWholes and DoubleTens. -/
import Derived.Test.YtmenjcjpihpjjaaWords
import Derived.Test.YtmenjcjpihpjjaaLawTellsD
set_option linter.unusedSimpArgs false
set_option linter.unusedVariables false
namespace Go.Proofs.Ytmenjcjpihpjjaa.Fb
open Go Go.RowKit Go.Proofs.YtmenjcjpihpjjaaW.PrintWords Go.Proofs.YtmenjcjpihpjjaaW.PrintLast Go.Proofs.YtmenjcjpihpjjaaW.PrintMore
attribute [local go_sem] max2_int min2_int max_two min_two
attribute [local go_sem] run_from run_bits run_neg

theorem i64_range {a : Int} (h : (Lit.int .i64 a).wf = true) : -9223372036854775808 ≤ a ∧ a ≤ 9223372036854775807 := by
  simpa [Lit.wf, IntKind.min, IntKind.max, IntKind.signed, IntKind.bits] using h
theorem app_list (a b : ByteArray) : (a ++ b).data.toList = a.data.toList ++ b.data.toList := by
  rw [ByteArray.data_append, Array.toList_append]
theorem lit_size (a : Array UInt8) : (⟨a⟩ : ByteArray).size = a.size := rfl
theorem dec_first (n : Nat) : ∀ c t, decL n = c :: t → c ≠ 78 ∧ c ≠ 73 := by
  intro c t h
  have h1 := isDig_range ((decL_dig n).1 c (by rw [h]; simp))
  constructor
  · rintro rfl; simp at h1
  · rintro rfl; simp at h1
theorem form_some {all : List UInt8} {k : Nat} {x : Int × Bool} {m e : Int} (h1 : x.2 = true) (h2 : all ≠ []) (h3 : all.length ≤ 15) (h4 : x.1 - k = e) (h5 : -22 ≤ e) (h6 : e ≤ 22) (h7 : wholeI all = m) : formF all k x = scaleF m e := by
  unfold formF
  rw [h4, h7]
  exact if_pos ⟨h1, h2, h3, h5, h6⟩
theorem app_ne {a b : List UInt8} (h : a ≠ []) : a ++ b ≠ [] := by intro g; exact h (List.append_eq_nil_iff.1 g).1
/-- A text that begins with digits has no sign. -/
theorem sign_dec (n : Nat) (x : List UInt8) : signR (decL n ++ x) = (false, decL n ++ x) := by
  obtain ⟨h1, _, h3⟩ := decL_dig n
  cases hd : decL n with
  | nil => exact absurd hd h3
  | cons c t =>
    have h := isDig_range (h1 c (by rw [hd]; simp))
    rw [List.cons_append, signR, if_neg, if_neg]
    · rintro rfl; simp at h
    · rintro rfl; simp at h
theorem parse_dec (n : Nat) (x : List UInt8) : parseL (decL n ++ x) = plainL (decL n ++ x) := by
  refine parse_plain (sign_dec n x) ?_
  intro c t h
  obtain ⟨h1, _, h3⟩ := decL_dig n
  cases hd : decL n with
  | nil => exact absurd hd h3
  | cons d u =>
    rw [hd, List.cons_append] at h
    injection h with h _
    subst h
    exact dec_first n d u hd
theorem whole_app_zero (l : List UInt8) : wholeI (l ++ [48]) = 10 * wholeI l := by rw [wholeI_snoc]; simp
theorem dig_app {l : List UInt8} (h : AllDig l) : AllDig (l ++ [48]) := h.append (fun c hc => by rw [List.mem_singleton] at hc; subst hc; decide)
/-- The six ways to write a whole number. -/
theorem way_0 (n : Nat) (h : n < 100000000) : parseL (decL n) = some (floatOfInt .f64 n) := by
  obtain ⟨h1, h2, h3⟩ := decL_dig n
  have hl := decL_len 7 n (by omega)
  have e := parse_dec n []
  rw [List.append_nil] at e
  have p := plain_bare h1 (x := []) (.inl rfl)
  rw [List.append_nil] at p
  rw [e, p, form_some (m := n) (e := 0) rfl h3 (by omega) rfl (by decide) (by decide) h2]
  exact (scale_whole n (by omega)).1
theorem way_1 (n : Nat) (h : n < 100000000) : parseL (43 :: decL n) = some (floatOfInt .f64 n) := by
  rw [parse_plus, if_neg (fun g => (dec_first n _ _ g).2 rfl)]
  have := way_0 n h
  have e := parse_dec n []
  rw [List.append_nil] at e
  rwa [e] at this
theorem way_2 (n : Nat) (h : n < 100000000) : parseL (48 :: 48 :: decL n) = some (floatOfInt .f64 n) := by
  obtain ⟨h1, h2, h3⟩ := decL_dig n
  have hl := decL_len 7 n (by omega)
  have hd : AllDig (48 :: 48 :: decL n) := by
    intro c hc
    rcases List.mem_cons.1 hc with rfl | hc
    · decide
    · rcases List.mem_cons.1 hc with rfl | hc
      · decide
      · exact h1 c hc
  have e : parseL (48 :: 48 :: decL n) = plainL (48 :: 48 :: decL n) := by
    refine parse_plain (signR_dig hd) ?_
    intro c t g
    injection g with g _
    subst g
    exact ⟨by decide, by decide⟩
  have p := plain_bare hd (x := []) (.inl rfl)
  rw [List.append_nil] at p
  rw [e, p, form_some (m := n) (e := 0) rfl (by simp) (by simp; omega) rfl (by decide) (by decide) (by rw [← h2]; rfl)]
  exact (scale_whole n (by omega)).1
theorem way_3 (n : Nat) (h : n < 100000000) : parseL (decL n ++ [46, 48]) = some (floatOfInt .f64 n) := by
  obtain ⟨h1, h2, h3⟩ := decL_dig n
  have hl := decL_len 7 n (by omega)
  have p := plain_dot h1 (b := [48]) (x := []) (fun c hc => by rw [List.mem_singleton] at hc; subst hc; decide) (.inl rfl)
  rw [parse_dec]
  have e0 : decL n ++ [46, 48] = decL n ++ 46 :: ([48] ++ []) := rfl
  rw [e0, p, form_some (m := ((10 * n : Nat) : Int)) (e := -1) rfl (app_ne h3) (by rw [List.length_append]; simp; omega) rfl (by decide) (by decide) (by rw [whole_app_zero, h2]; omega)]
  exact (scale_whole n (by omega)).2
theorem way_4 (n : Nat) (h : n < 100000000) : parseL (decL n ++ [101, 48]) = some (floatOfInt .f64 n) := by
  obtain ⟨h1, h2, h3⟩ := decL_dig n
  have hl := decL_len 7 n (by omega)
  have p := plain_bare h1 (x := [101, 48]) (.inr ⟨_, _, rfl, by decide, by decide⟩)
  rw [parse_dec, p, form_some (m := n) (e := 0) rfl h3 (by omega) rfl (by decide) (by decide) h2]
  exact (scale_whole n (by omega)).1
theorem way_5 (n : Nat) (h : n < 100000000) : parseL (decL n ++ [48, 101, 45, 49]) = some (floatOfInt .f64 n) := by
  obtain ⟨h1, h2, h3⟩ := decL_dig n
  have hl := decL_len 7 n (by omega)
  have p := plain_bare (dig_app h1) (x := [101, 45, 49]) (.inr ⟨_, _, rfl, by decide, by decide⟩)
  have e0 : decL n ++ [48, 101, 45, 49] = (decL n ++ [48]) ++ [101, 45, 49] := by simp
  rw [parse_dec, e0, p, form_some (m := ((10 * n : Nat) : Int)) (e := -1) rfl (app_ne h3) (by rw [List.length_append]; simp; omega) (by decide) (by decide) (by decide) (by rw [whole_app_zero, h2]; omega)]
  exact (scale_whole n (by omega)).2
theorem way_neg (n : Nat) (h : n < 100000000) : parseL (45 :: decL n) = some (negF (floatOfInt .f64 n)) := by
  rw [parse_minus, way_1 n h]; rfl
theorem int_le (n : Nat) : floatOfInt .f64 (n : Int) ≤ 9218868437227405312 := by
  obtain ⟨a, h1, h2⟩ := ofInt_read (n : Int) (by omega)
  rw [h1]; exact h2
set_option maxRecDepth 100000 in
set_option maxHeartbeats 2000000 in
theorem wholes_out (n way : Int) (w : World) (h : n < 0 ∨ (0 ≤ n ∧ 99999999 < n) ∨ (0 ≤ n ∧ n ≤ 99999999 ∧ way < 0) ∨ (0 ≤ n ∧ n ≤ 99999999 ∧ 0 ≤ way ∧ 5 < way)) :
    Calls Try.prog 4 #[.int .i64 n, .int .i64 way] w fun e w' => e = .returned (.bool true) ∧ Below w.heap.size w w' := by
  rcases h with h | ⟨h, h2⟩ | ⟨h, h2, h3⟩ | ⟨h, h2, h3, h4⟩
  all_goals
    go_enter Try.func4, Try.ntmps4
    go_wp2_with fail
    go_ret
    exact ⟨rfl, Below.refl _ _⟩
theorem wholes_below {w w1 w2 w3 w4 w6 : World} {o : Obj} (h1 : Below w.heap.size w w1) (h2 : Below (w1.alloc o).heap.size (w1.alloc o) w2) (h3 : Below w2.heap.size w2 w3) (h4 : Below w3.heap.size w3 w4) (h6 : Below w4.heap.size w4 w6) : Below w.heap.size w w6 :=
  below_two (below_two (below_two ((h1.alloc h1.size o).trans (h2.mono (by have := h1.size; simp; omega))) h3) h4) h6
theorem wholes_at (k : Nat) (hk : k < 100000000) : ∃ qb : ByteArray, qb.data.toList = decL k ∧ qb.size ≤ 8 ∧ (∀ w, Calls Try.prog 15 #[.int .i64 k] w fun e w' => e = .returned (.string qb) ∧ Below w.heap.size w w') := by
  refine ⟨⟨(decL k).toArray⟩, by simp, ?_, fun w => digs_any k (by omega) w⟩
  rw [← toList_size]
  exact decL_len 7 k (by omega)
set_option maxRecDepth 100000 in
set_option maxHeartbeats 2000000 in
theorem wholes_0 (k : Nat) (hk : k < 100000000) (w : World) :
    Calls Try.prog 4 #[.int .i64 k, .int .i64 0] w fun e w' => e = .returned (.bool true) ∧ Below w.heap.size w w' := by
  have CK := Aside0.mk known_any
  obtain ⟨qb, hd, hz, hC⟩ := wholes_at k hk
  have CD := Aside0.mk hC
  have hsz : (qb).size ≤ 200 := by omega
  have hp : ∀ w, Calls Try.prog 16 #[.string qb] w (PlainP w (some (floatOfInt .f64 k))) := fun w => by
    have h := parse_any qb hsz w
    rw [show parseL (qb).data.toList = some (floatOfInt .f64 k) by rw [hd]; exact way_0 k hk] at h
    exact h
  have CP := Aside0.mk hp
  have hp2 : ∀ w, Calls Try.prog 16 #[.string ((⟨#[45]⟩ : ByteArray) ++ qb)] w (PlainP w (some (negF (floatOfInt .f64 k)))) := fun w => by
    have h := parse_any ((⟨#[45]⟩ : ByteArray) ++ qb) (by simp [lit_size]; omega) w
    rw [show parseL ((⟨#[45]⟩ : ByteArray) ++ qb).data.toList = some (negF (floatOfInt .f64 k)) by rw [app_list, hd]; exact way_neg k hk] at h
    exact h
  have CN := Aside0.mk hp2
  have hle := int_le k
  obtain ⟨kx, hkx⟩ := key_le hle
  have hnn : negF (floatOfInt .f64 k) = floatOfInt .f64 k + 9223372036854775808 := negF_add _ (by omega)
  have q1 : (FloatKind.f64.format.order (floatOfInt .f64 (k : Int)) (floatOfInt .f64 (k : Int)) == some Ordering.eq) = true := by
    have := eq_of_nan' (n := floatOfInt .f64 (k : Int)) (b := false) (by rw [nan_key, hkx]; rfl)
    exact this
  have q2 : (FloatKind.f64.format.order (negF (floatOfInt .f64 (k : Int))) (negF (floatOfInt .f64 (k : Int))) == some Ordering.eq) = true := by
    have := eq_of_nan' (n := negF (floatOfInt .f64 (k : Int))) (b := false) (by rw [nan_key, key_neg (by omega), hkx]; rfl)
    exact this
  have CB1 := Aside0.mk (signbit_any (floatOfInt .f64 k) (by omega))
  rw [show neg (floatOfInt .f64 k) = false by unfold neg; simp; omega] at CB1
  have CB2 := Aside0.mk (signbit_any (negF (floatOfInt .f64 k)) (by omega))
  rw [show neg (negF (floatOfInt .f64 k)) = true by unfold neg; simp; omega] at CB2
  clear hC hp hp2 hd hkx hle hnn hsz
  go_enter Try.func4, Try.ntmps4
  go_wp2_with fail
  refine (CD.out _).mono ?_
  rintro e w1 ⟨rfl, hb1⟩
  have HB1 := Aside0.mk hb1
  clear hb1
  go_wp2_with fail
  refine (CP.out _).mono ?_
  rintro e w2 ⟨rfl, hb2⟩
  have HB2 := Aside0.mk hb2
  clear hb2
  go_wp2_with fail
  refine (CD.out _).mono ?_
  rintro e w3 ⟨rfl, hb3⟩
  have HB3 := Aside0.mk hb3
  clear hb3
  go_wp2_with fail
  refine (CN.out _).mono ?_
  rintro e w4 ⟨rfl, hb4⟩
  have HB4 := Aside0.mk hb4
  clear hb4
  by_cases h0 : 0 < k
  · go_wp2_with fail
    refine (CB1.out _).mono ?_
    rintro e w5 ⟨rfl, rfl⟩
    go_wp2_with fail
    refine (CK.out _).mono ?_
    rintro e w6 ⟨rfl, hb6⟩
    go_wp2_with fail
    go_ret
    exact ⟨rfl, wholes_below HB1.out HB2.out HB3.out HB4.out hb6⟩
  · go_wp2_with fail
    refine (CB2.out _).mono ?_
    rintro e w5 ⟨rfl, rfl⟩
    go_wp2_with fail
    refine (CB1.out _).mono ?_
    rintro e w5 ⟨rfl, rfl⟩
    go_wp2_with fail
    refine (CK.out _).mono ?_
    rintro e w6 ⟨rfl, hb6⟩
    go_wp2_with fail
    go_ret
    exact ⟨rfl, wholes_below HB1.out HB2.out HB3.out HB4.out hb6⟩
set_option maxRecDepth 100000 in
set_option maxHeartbeats 2000000 in
theorem wholes_1 (k : Nat) (hk : k < 100000000) (w : World) :
    Calls Try.prog 4 #[.int .i64 k, .int .i64 1] w fun e w' => e = .returned (.bool true) ∧ Below w.heap.size w w' := by
  have CK := Aside0.mk known_any
  obtain ⟨qb, hd, hz, hC⟩ := wholes_at k hk
  have CD := Aside0.mk hC
  have hsz : (((⟨#[43]⟩ : ByteArray) ++ qb)).size ≤ 200 := by simp [lit_size]; omega
  have hp : ∀ w, Calls Try.prog 16 #[.string ((⟨#[43]⟩ : ByteArray) ++ qb)] w (PlainP w (some (floatOfInt .f64 k))) := fun w => by
    have h := parse_any ((⟨#[43]⟩ : ByteArray) ++ qb) hsz w
    rw [show parseL (((⟨#[43]⟩ : ByteArray) ++ qb)).data.toList = some (floatOfInt .f64 k) by rw [app_list, hd]; exact way_1 k hk] at h
    exact h
  have CP := Aside0.mk hp
  have hp2 : ∀ w, Calls Try.prog 16 #[.string ((⟨#[45]⟩ : ByteArray) ++ qb)] w (PlainP w (some (negF (floatOfInt .f64 k)))) := fun w => by
    have h := parse_any ((⟨#[45]⟩ : ByteArray) ++ qb) (by simp [lit_size]; omega) w
    rw [show parseL ((⟨#[45]⟩ : ByteArray) ++ qb).data.toList = some (negF (floatOfInt .f64 k)) by rw [app_list, hd]; exact way_neg k hk] at h
    exact h
  have CN := Aside0.mk hp2
  have hle := int_le k
  obtain ⟨kx, hkx⟩ := key_le hle
  have hnn : negF (floatOfInt .f64 k) = floatOfInt .f64 k + 9223372036854775808 := negF_add _ (by omega)
  have q1 : (FloatKind.f64.format.order (floatOfInt .f64 (k : Int)) (floatOfInt .f64 (k : Int)) == some Ordering.eq) = true := by
    have := eq_of_nan' (n := floatOfInt .f64 (k : Int)) (b := false) (by rw [nan_key, hkx]; rfl)
    exact this
  have q2 : (FloatKind.f64.format.order (negF (floatOfInt .f64 (k : Int))) (negF (floatOfInt .f64 (k : Int))) == some Ordering.eq) = true := by
    have := eq_of_nan' (n := negF (floatOfInt .f64 (k : Int))) (b := false) (by rw [nan_key, key_neg (by omega), hkx]; rfl)
    exact this
  have CB1 := Aside0.mk (signbit_any (floatOfInt .f64 k) (by omega))
  rw [show neg (floatOfInt .f64 k) = false by unfold neg; simp; omega] at CB1
  have CB2 := Aside0.mk (signbit_any (negF (floatOfInt .f64 k)) (by omega))
  rw [show neg (negF (floatOfInt .f64 k)) = true by unfold neg; simp; omega] at CB2
  clear hC hp hp2 hd hkx hle hnn hsz
  go_enter Try.func4, Try.ntmps4
  go_wp2_with fail
  refine (CD.out _).mono ?_
  rintro e w1 ⟨rfl, hb1⟩
  have HB1 := Aside0.mk hb1
  clear hb1
  go_wp2_with fail
  refine (CP.out _).mono ?_
  rintro e w2 ⟨rfl, hb2⟩
  have HB2 := Aside0.mk hb2
  clear hb2
  go_wp2_with fail
  refine (CD.out _).mono ?_
  rintro e w3 ⟨rfl, hb3⟩
  have HB3 := Aside0.mk hb3
  clear hb3
  go_wp2_with fail
  refine (CN.out _).mono ?_
  rintro e w4 ⟨rfl, hb4⟩
  have HB4 := Aside0.mk hb4
  clear hb4
  by_cases h0 : 0 < k
  · go_wp2_with fail
    refine (CB1.out _).mono ?_
    rintro e w5 ⟨rfl, rfl⟩
    go_wp2_with fail
    refine (CK.out _).mono ?_
    rintro e w6 ⟨rfl, hb6⟩
    go_wp2_with fail
    go_ret
    exact ⟨rfl, wholes_below HB1.out HB2.out HB3.out HB4.out hb6⟩
  · go_wp2_with fail
    refine (CB2.out _).mono ?_
    rintro e w5 ⟨rfl, rfl⟩
    go_wp2_with fail
    refine (CB1.out _).mono ?_
    rintro e w5 ⟨rfl, rfl⟩
    go_wp2_with fail
    refine (CK.out _).mono ?_
    rintro e w6 ⟨rfl, hb6⟩
    go_wp2_with fail
    go_ret
    exact ⟨rfl, wholes_below HB1.out HB2.out HB3.out HB4.out hb6⟩
set_option maxRecDepth 100000 in
set_option maxHeartbeats 2000000 in
theorem wholes_2 (k : Nat) (hk : k < 100000000) (w : World) :
    Calls Try.prog 4 #[.int .i64 k, .int .i64 2] w fun e w' => e = .returned (.bool true) ∧ Below w.heap.size w w' := by
  have CK := Aside0.mk known_any
  obtain ⟨qb, hd, hz, hC⟩ := wholes_at k hk
  have CD := Aside0.mk hC
  have hsz : (((⟨#[48, 48]⟩ : ByteArray) ++ qb)).size ≤ 200 := by simp [lit_size]; omega
  have hp : ∀ w, Calls Try.prog 16 #[.string ((⟨#[48, 48]⟩ : ByteArray) ++ qb)] w (PlainP w (some (floatOfInt .f64 k))) := fun w => by
    have h := parse_any ((⟨#[48, 48]⟩ : ByteArray) ++ qb) hsz w
    rw [show parseL (((⟨#[48, 48]⟩ : ByteArray) ++ qb)).data.toList = some (floatOfInt .f64 k) by rw [app_list, hd]; exact way_2 k hk] at h
    exact h
  have CP := Aside0.mk hp
  have hp2 : ∀ w, Calls Try.prog 16 #[.string ((⟨#[45]⟩ : ByteArray) ++ qb)] w (PlainP w (some (negF (floatOfInt .f64 k)))) := fun w => by
    have h := parse_any ((⟨#[45]⟩ : ByteArray) ++ qb) (by simp [lit_size]; omega) w
    rw [show parseL ((⟨#[45]⟩ : ByteArray) ++ qb).data.toList = some (negF (floatOfInt .f64 k)) by rw [app_list, hd]; exact way_neg k hk] at h
    exact h
  have CN := Aside0.mk hp2
  have hle := int_le k
  obtain ⟨kx, hkx⟩ := key_le hle
  have hnn : negF (floatOfInt .f64 k) = floatOfInt .f64 k + 9223372036854775808 := negF_add _ (by omega)
  have q1 : (FloatKind.f64.format.order (floatOfInt .f64 (k : Int)) (floatOfInt .f64 (k : Int)) == some Ordering.eq) = true := by
    have := eq_of_nan' (n := floatOfInt .f64 (k : Int)) (b := false) (by rw [nan_key, hkx]; rfl)
    exact this
  have q2 : (FloatKind.f64.format.order (negF (floatOfInt .f64 (k : Int))) (negF (floatOfInt .f64 (k : Int))) == some Ordering.eq) = true := by
    have := eq_of_nan' (n := negF (floatOfInt .f64 (k : Int))) (b := false) (by rw [nan_key, key_neg (by omega), hkx]; rfl)
    exact this
  have CB1 := Aside0.mk (signbit_any (floatOfInt .f64 k) (by omega))
  rw [show neg (floatOfInt .f64 k) = false by unfold neg; simp; omega] at CB1
  have CB2 := Aside0.mk (signbit_any (negF (floatOfInt .f64 k)) (by omega))
  rw [show neg (negF (floatOfInt .f64 k)) = true by unfold neg; simp; omega] at CB2
  clear hC hp hp2 hd hkx hle hnn hsz
  go_enter Try.func4, Try.ntmps4
  go_wp2_with fail
  refine (CD.out _).mono ?_
  rintro e w1 ⟨rfl, hb1⟩
  have HB1 := Aside0.mk hb1
  clear hb1
  go_wp2_with fail
  refine (CP.out _).mono ?_
  rintro e w2 ⟨rfl, hb2⟩
  have HB2 := Aside0.mk hb2
  clear hb2
  go_wp2_with fail
  refine (CD.out _).mono ?_
  rintro e w3 ⟨rfl, hb3⟩
  have HB3 := Aside0.mk hb3
  clear hb3
  go_wp2_with fail
  refine (CN.out _).mono ?_
  rintro e w4 ⟨rfl, hb4⟩
  have HB4 := Aside0.mk hb4
  clear hb4
  by_cases h0 : 0 < k
  · go_wp2_with fail
    refine (CB1.out _).mono ?_
    rintro e w5 ⟨rfl, rfl⟩
    go_wp2_with fail
    refine (CK.out _).mono ?_
    rintro e w6 ⟨rfl, hb6⟩
    go_wp2_with fail
    go_ret
    exact ⟨rfl, wholes_below HB1.out HB2.out HB3.out HB4.out hb6⟩
  · go_wp2_with fail
    refine (CB2.out _).mono ?_
    rintro e w5 ⟨rfl, rfl⟩
    go_wp2_with fail
    refine (CB1.out _).mono ?_
    rintro e w5 ⟨rfl, rfl⟩
    go_wp2_with fail
    refine (CK.out _).mono ?_
    rintro e w6 ⟨rfl, hb6⟩
    go_wp2_with fail
    go_ret
    exact ⟨rfl, wholes_below HB1.out HB2.out HB3.out HB4.out hb6⟩
set_option maxRecDepth 100000 in
set_option maxHeartbeats 2000000 in
theorem wholes_3 (k : Nat) (hk : k < 100000000) (w : World) :
    Calls Try.prog 4 #[.int .i64 k, .int .i64 3] w fun e w' => e = .returned (.bool true) ∧ Below w.heap.size w w' := by
  have CK := Aside0.mk known_any
  obtain ⟨qb, hd, hz, hC⟩ := wholes_at k hk
  have CD := Aside0.mk hC
  have hsz : ((qb ++ (⟨#[46, 48]⟩ : ByteArray))).size ≤ 200 := by simp [lit_size]; omega
  have hp : ∀ w, Calls Try.prog 16 #[.string (qb ++ (⟨#[46, 48]⟩ : ByteArray))] w (PlainP w (some (floatOfInt .f64 k))) := fun w => by
    have h := parse_any (qb ++ (⟨#[46, 48]⟩ : ByteArray)) hsz w
    rw [show parseL ((qb ++ (⟨#[46, 48]⟩ : ByteArray))).data.toList = some (floatOfInt .f64 k) by rw [app_list, hd]; exact way_3 k hk] at h
    exact h
  have CP := Aside0.mk hp
  have hp2 : ∀ w, Calls Try.prog 16 #[.string ((⟨#[45]⟩ : ByteArray) ++ qb)] w (PlainP w (some (negF (floatOfInt .f64 k)))) := fun w => by
    have h := parse_any ((⟨#[45]⟩ : ByteArray) ++ qb) (by simp [lit_size]; omega) w
    rw [show parseL ((⟨#[45]⟩ : ByteArray) ++ qb).data.toList = some (negF (floatOfInt .f64 k)) by rw [app_list, hd]; exact way_neg k hk] at h
    exact h
  have CN := Aside0.mk hp2
  have hle := int_le k
  obtain ⟨kx, hkx⟩ := key_le hle
  have hnn : negF (floatOfInt .f64 k) = floatOfInt .f64 k + 9223372036854775808 := negF_add _ (by omega)
  have q1 : (FloatKind.f64.format.order (floatOfInt .f64 (k : Int)) (floatOfInt .f64 (k : Int)) == some Ordering.eq) = true := by
    have := eq_of_nan' (n := floatOfInt .f64 (k : Int)) (b := false) (by rw [nan_key, hkx]; rfl)
    exact this
  have q2 : (FloatKind.f64.format.order (negF (floatOfInt .f64 (k : Int))) (negF (floatOfInt .f64 (k : Int))) == some Ordering.eq) = true := by
    have := eq_of_nan' (n := negF (floatOfInt .f64 (k : Int))) (b := false) (by rw [nan_key, key_neg (by omega), hkx]; rfl)
    exact this
  have CB1 := Aside0.mk (signbit_any (floatOfInt .f64 k) (by omega))
  rw [show neg (floatOfInt .f64 k) = false by unfold neg; simp; omega] at CB1
  have CB2 := Aside0.mk (signbit_any (negF (floatOfInt .f64 k)) (by omega))
  rw [show neg (negF (floatOfInt .f64 k)) = true by unfold neg; simp; omega] at CB2
  clear hC hp hp2 hd hkx hle hnn hsz
  go_enter Try.func4, Try.ntmps4
  go_wp2_with fail
  refine (CD.out _).mono ?_
  rintro e w1 ⟨rfl, hb1⟩
  have HB1 := Aside0.mk hb1
  clear hb1
  go_wp2_with fail
  refine (CP.out _).mono ?_
  rintro e w2 ⟨rfl, hb2⟩
  have HB2 := Aside0.mk hb2
  clear hb2
  go_wp2_with fail
  refine (CD.out _).mono ?_
  rintro e w3 ⟨rfl, hb3⟩
  have HB3 := Aside0.mk hb3
  clear hb3
  go_wp2_with fail
  refine (CN.out _).mono ?_
  rintro e w4 ⟨rfl, hb4⟩
  have HB4 := Aside0.mk hb4
  clear hb4
  by_cases h0 : 0 < k
  · go_wp2_with fail
    refine (CB1.out _).mono ?_
    rintro e w5 ⟨rfl, rfl⟩
    go_wp2_with fail
    refine (CK.out _).mono ?_
    rintro e w6 ⟨rfl, hb6⟩
    go_wp2_with fail
    go_ret
    exact ⟨rfl, wholes_below HB1.out HB2.out HB3.out HB4.out hb6⟩
  · go_wp2_with fail
    refine (CB2.out _).mono ?_
    rintro e w5 ⟨rfl, rfl⟩
    go_wp2_with fail
    refine (CB1.out _).mono ?_
    rintro e w5 ⟨rfl, rfl⟩
    go_wp2_with fail
    refine (CK.out _).mono ?_
    rintro e w6 ⟨rfl, hb6⟩
    go_wp2_with fail
    go_ret
    exact ⟨rfl, wholes_below HB1.out HB2.out HB3.out HB4.out hb6⟩
set_option maxRecDepth 100000 in
set_option maxHeartbeats 2000000 in
theorem wholes_4 (k : Nat) (hk : k < 100000000) (w : World) :
    Calls Try.prog 4 #[.int .i64 k, .int .i64 4] w fun e w' => e = .returned (.bool true) ∧ Below w.heap.size w w' := by
  have CK := Aside0.mk known_any
  obtain ⟨qb, hd, hz, hC⟩ := wholes_at k hk
  have CD := Aside0.mk hC
  have hsz : ((qb ++ (⟨#[101, 48]⟩ : ByteArray))).size ≤ 200 := by simp [lit_size]; omega
  have hp : ∀ w, Calls Try.prog 16 #[.string (qb ++ (⟨#[101, 48]⟩ : ByteArray))] w (PlainP w (some (floatOfInt .f64 k))) := fun w => by
    have h := parse_any (qb ++ (⟨#[101, 48]⟩ : ByteArray)) hsz w
    rw [show parseL ((qb ++ (⟨#[101, 48]⟩ : ByteArray))).data.toList = some (floatOfInt .f64 k) by rw [app_list, hd]; exact way_4 k hk] at h
    exact h
  have CP := Aside0.mk hp
  have hp2 : ∀ w, Calls Try.prog 16 #[.string ((⟨#[45]⟩ : ByteArray) ++ qb)] w (PlainP w (some (negF (floatOfInt .f64 k)))) := fun w => by
    have h := parse_any ((⟨#[45]⟩ : ByteArray) ++ qb) (by simp [lit_size]; omega) w
    rw [show parseL ((⟨#[45]⟩ : ByteArray) ++ qb).data.toList = some (negF (floatOfInt .f64 k)) by rw [app_list, hd]; exact way_neg k hk] at h
    exact h
  have CN := Aside0.mk hp2
  have hle := int_le k
  obtain ⟨kx, hkx⟩ := key_le hle
  have hnn : negF (floatOfInt .f64 k) = floatOfInt .f64 k + 9223372036854775808 := negF_add _ (by omega)
  have q1 : (FloatKind.f64.format.order (floatOfInt .f64 (k : Int)) (floatOfInt .f64 (k : Int)) == some Ordering.eq) = true := by
    have := eq_of_nan' (n := floatOfInt .f64 (k : Int)) (b := false) (by rw [nan_key, hkx]; rfl)
    exact this
  have q2 : (FloatKind.f64.format.order (negF (floatOfInt .f64 (k : Int))) (negF (floatOfInt .f64 (k : Int))) == some Ordering.eq) = true := by
    have := eq_of_nan' (n := negF (floatOfInt .f64 (k : Int))) (b := false) (by rw [nan_key, key_neg (by omega), hkx]; rfl)
    exact this
  have CB1 := Aside0.mk (signbit_any (floatOfInt .f64 k) (by omega))
  rw [show neg (floatOfInt .f64 k) = false by unfold neg; simp; omega] at CB1
  have CB2 := Aside0.mk (signbit_any (negF (floatOfInt .f64 k)) (by omega))
  rw [show neg (negF (floatOfInt .f64 k)) = true by unfold neg; simp; omega] at CB2
  clear hC hp hp2 hd hkx hle hnn hsz
  go_enter Try.func4, Try.ntmps4
  go_wp2_with fail
  refine (CD.out _).mono ?_
  rintro e w1 ⟨rfl, hb1⟩
  have HB1 := Aside0.mk hb1
  clear hb1
  go_wp2_with fail
  refine (CP.out _).mono ?_
  rintro e w2 ⟨rfl, hb2⟩
  have HB2 := Aside0.mk hb2
  clear hb2
  go_wp2_with fail
  refine (CD.out _).mono ?_
  rintro e w3 ⟨rfl, hb3⟩
  have HB3 := Aside0.mk hb3
  clear hb3
  go_wp2_with fail
  refine (CN.out _).mono ?_
  rintro e w4 ⟨rfl, hb4⟩
  have HB4 := Aside0.mk hb4
  clear hb4
  by_cases h0 : 0 < k
  · go_wp2_with fail
    refine (CB1.out _).mono ?_
    rintro e w5 ⟨rfl, rfl⟩
    go_wp2_with fail
    refine (CK.out _).mono ?_
    rintro e w6 ⟨rfl, hb6⟩
    go_wp2_with fail
    go_ret
    exact ⟨rfl, wholes_below HB1.out HB2.out HB3.out HB4.out hb6⟩
  · go_wp2_with fail
    refine (CB2.out _).mono ?_
    rintro e w5 ⟨rfl, rfl⟩
    go_wp2_with fail
    refine (CB1.out _).mono ?_
    rintro e w5 ⟨rfl, rfl⟩
    go_wp2_with fail
    refine (CK.out _).mono ?_
    rintro e w6 ⟨rfl, hb6⟩
    go_wp2_with fail
    go_ret
    exact ⟨rfl, wholes_below HB1.out HB2.out HB3.out HB4.out hb6⟩
set_option maxRecDepth 100000 in
set_option maxHeartbeats 2000000 in
theorem wholes_5 (k : Nat) (hk : k < 100000000) (w : World) :
    Calls Try.prog 4 #[.int .i64 k, .int .i64 5] w fun e w' => e = .returned (.bool true) ∧ Below w.heap.size w w' := by
  have CK := Aside0.mk known_any
  obtain ⟨qb, hd, hz, hC⟩ := wholes_at k hk
  have CD := Aside0.mk hC
  have hsz : ((qb ++ (⟨#[48, 101, 45, 49]⟩ : ByteArray))).size ≤ 200 := by simp [lit_size]; omega
  have hp : ∀ w, Calls Try.prog 16 #[.string (qb ++ (⟨#[48, 101, 45, 49]⟩ : ByteArray))] w (PlainP w (some (floatOfInt .f64 k))) := fun w => by
    have h := parse_any (qb ++ (⟨#[48, 101, 45, 49]⟩ : ByteArray)) hsz w
    rw [show parseL ((qb ++ (⟨#[48, 101, 45, 49]⟩ : ByteArray))).data.toList = some (floatOfInt .f64 k) by rw [app_list, hd]; exact way_5 k hk] at h
    exact h
  have CP := Aside0.mk hp
  have hp2 : ∀ w, Calls Try.prog 16 #[.string ((⟨#[45]⟩ : ByteArray) ++ qb)] w (PlainP w (some (negF (floatOfInt .f64 k)))) := fun w => by
    have h := parse_any ((⟨#[45]⟩ : ByteArray) ++ qb) (by simp [lit_size]; omega) w
    rw [show parseL ((⟨#[45]⟩ : ByteArray) ++ qb).data.toList = some (negF (floatOfInt .f64 k)) by rw [app_list, hd]; exact way_neg k hk] at h
    exact h
  have CN := Aside0.mk hp2
  have hle := int_le k
  obtain ⟨kx, hkx⟩ := key_le hle
  have hnn : negF (floatOfInt .f64 k) = floatOfInt .f64 k + 9223372036854775808 := negF_add _ (by omega)
  have q1 : (FloatKind.f64.format.order (floatOfInt .f64 (k : Int)) (floatOfInt .f64 (k : Int)) == some Ordering.eq) = true := by
    have := eq_of_nan' (n := floatOfInt .f64 (k : Int)) (b := false) (by rw [nan_key, hkx]; rfl)
    exact this
  have q2 : (FloatKind.f64.format.order (negF (floatOfInt .f64 (k : Int))) (negF (floatOfInt .f64 (k : Int))) == some Ordering.eq) = true := by
    have := eq_of_nan' (n := negF (floatOfInt .f64 (k : Int))) (b := false) (by rw [nan_key, key_neg (by omega), hkx]; rfl)
    exact this
  have CB1 := Aside0.mk (signbit_any (floatOfInt .f64 k) (by omega))
  rw [show neg (floatOfInt .f64 k) = false by unfold neg; simp; omega] at CB1
  have CB2 := Aside0.mk (signbit_any (negF (floatOfInt .f64 k)) (by omega))
  rw [show neg (negF (floatOfInt .f64 k)) = true by unfold neg; simp; omega] at CB2
  clear hC hp hp2 hd hkx hle hnn hsz
  go_enter Try.func4, Try.ntmps4
  go_wp2_with fail
  refine (CD.out _).mono ?_
  rintro e w1 ⟨rfl, hb1⟩
  have HB1 := Aside0.mk hb1
  clear hb1
  go_wp2_with fail
  refine (CP.out _).mono ?_
  rintro e w2 ⟨rfl, hb2⟩
  have HB2 := Aside0.mk hb2
  clear hb2
  go_wp2_with fail
  refine (CD.out _).mono ?_
  rintro e w3 ⟨rfl, hb3⟩
  have HB3 := Aside0.mk hb3
  clear hb3
  go_wp2_with fail
  refine (CN.out _).mono ?_
  rintro e w4 ⟨rfl, hb4⟩
  have HB4 := Aside0.mk hb4
  clear hb4
  by_cases h0 : 0 < k
  · go_wp2_with fail
    refine (CB1.out _).mono ?_
    rintro e w5 ⟨rfl, rfl⟩
    go_wp2_with fail
    refine (CK.out _).mono ?_
    rintro e w6 ⟨rfl, hb6⟩
    go_wp2_with fail
    go_ret
    exact ⟨rfl, wholes_below HB1.out HB2.out HB3.out HB4.out hb6⟩
  · go_wp2_with fail
    refine (CB2.out _).mono ?_
    rintro e w5 ⟨rfl, rfl⟩
    go_wp2_with fail
    refine (CB1.out _).mono ?_
    rintro e w5 ⟨rfl, rfl⟩
    go_wp2_with fail
    refine (CK.out _).mono ?_
    rintro e w6 ⟨rfl, hb6⟩
    go_wp2_with fail
    go_ret
    exact ⟨rfl, wholes_below HB1.out HB2.out HB3.out HB4.out hb6⟩
theorem wholes_law (n way : Int) (w : World) (hn : (Lit.int .i64 n).wf = true) (hw : (Lit.int .i64 way).wf = true) :
    Calls Try.prog 4 #[.int .i64 n, .int .i64 way] w fun e w' => e = .returned (.bool true) ∧ Below w.heap.size w w' := by
  by_cases h1 : 0 ≤ n ∧ n ≤ 99999999 ∧ 0 ≤ way ∧ way ≤ 5
  · obtain ⟨k, rfl⟩ := Int.eq_ofNat_of_zero_le h1.1
    have h : way = 0 ∨ way = 1 ∨ way = 2 ∨ way = 3 ∨ way = 4 ∨ way = 5 := by omega
    rcases h with rfl | rfl | rfl | rfl | rfl | rfl
    · exact wholes_0 k (by omega) w
    · exact wholes_1 k (by omega) w
    · exact wholes_2 k (by omega) w
    · exact wholes_3 k (by omega) w
    · exact wholes_4 k (by omega) w
    · exact wholes_5 k (by omega) w
  · exact wholes_out n way w (by omega)
end Go.Proofs.Ytmenjcjpihpjjaa.Fb
