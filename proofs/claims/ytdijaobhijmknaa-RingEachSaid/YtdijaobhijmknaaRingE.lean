/- The walks of what New asks of a triple: ContainsFunc with its closure, Compare. -/
import Derived.Test.YtdijaobhijmknaaRingD
set_option linter.unusedSimpArgs false
set_option linter.unusedVariables false
namespace Go.Proofs.Ytdijaobhijmknaa.Rg
open Go Go.RowKit Go.Proofs.YtdijaobhijmknaaW.PrintWords Go.Proofs.YtdijaobhijmknaaW.PrintLast Go.Proofs.YtdijaobhijmknaaW.PrintMore
attribute [local go_sem] max2_int min2_int max_two min_two

/-- A number that may not be. -/
def badI (n : Int) : Bool := decide (n < 1) || decide (1000 < n)
theorem bad_any (n : Int) (w : World) : Calls Try.prog 66 #[.int .i64 n] w fun e w' => e = .returned (.bool (badI n)) ∧ w = w' := by
  unfold badI
  by_cases h : n < 1
  · go_enter Try.func66, Try.ntmps66
    go_wp2_with fail
    go_ret
    exact ⟨ret_bool (by simp [h]), rfl⟩
  · by_cases h2 : 1000 < n
    · go_enter Try.func66, Try.ntmps66
      go_wp2_with fail
      go_ret
      exact ⟨ret_bool (by simp [h, h2]), rfl⟩
    · go_enter Try.func66, Try.ntmps66
      go_wp2_with fail
      go_ret
      exact ⟨ret_bool (by simp [h, h2]), rfl⟩
/-- The place of the first number that may not be. -/
def badIx (t : Tri) : Int := if badI t.s = true then 0 else if badI t.p = true then 1 else if badI t.o = true then 2 else -1
theorem bad_0 {t : Tri} (h : badI t.s = true) : badIx t = 0 := if_pos h
theorem bad_1 {t : Tri} (h : badI t.s = false) (h1 : badI t.p = true) : badIx t = 1 := by simp [badIx, h, h1]
theorem bad_2 {t : Tri} (h : badI t.s = false) (h1 : badI t.p = false) (h2 : badI t.o = true) : badIx t = 2 := by simp [badIx, h, h1, h2]
theorem bad_3 {t : Tri} (h : badI t.s = false) (h1 : badI t.p = false) (h2 : badI t.o = false) : badIx t = -1 := by simp [badIx, h, h1, h2]
theorem ret_i64' {a b : Int} (h : a = b) : Ending.returned (.int .i64 a) = .returned (.int .i64 b) := by rw [h]
set_option maxHeartbeats 1000000 in
theorem indexInt_any (q : Addr) (c : Nat) (t : Tri) (w : World) (h : At3 w q t) :
    Calls Try.prog 79 #[.slice (some q) 3 c, .func (.func 66) #[] #[]] w fun e w' => e = .returned (.int .i64 (badIx t)) ∧ w = w' := by
  obtain ⟨k0, k1, k2⟩ := h
  have C := Aside0.mk (fun n => bad_any n w)
  cases h0 : badI t.s with
  | true =>
    have HX := Aside0.mk (bad_0 h0)
    have C0 := C.out t.s
    rw [h0] at C0
    clear h0
    go_enter Try.func79, Try.ntmps79
    go_wp2_with fail
    refine wp_loop_rounds 1 ?_
    rw [rounds_succ]
    go_wp2_with (go_at_call 66; (with_reducible refine C0.mono ?_); rintro e w1 ⟨rfl, rfl⟩)
    go_ret
    exact ⟨ret_i64' HX.out.symm, rfl⟩
  | false =>
    cases h1 : badI t.p with
    | true =>
      have HX := Aside0.mk (bad_1 h0 h1)
      have C0 := C.out t.s
      have C1 := C.out t.p
      rw [h0] at C0
      rw [h1] at C1
      clear h0 h1
      go_enter Try.func79, Try.ntmps79
      go_wp2_with fail
      refine wp_loop_rounds 2 ?_
      rw [rounds_succ]
      go_wp2_with (go_at_call 66; (with_reducible refine C0.mono ?_); rintro e w1 ⟨rfl, rfl⟩)
      rw [rounds_succ]
      go_wp2_with (go_at_call 66; (with_reducible refine C1.mono ?_); rintro e w1 ⟨rfl, rfl⟩)
      go_ret
      exact ⟨ret_i64' HX.out.symm, rfl⟩
    | false =>
      have C0 := C.out t.s
      have C1 := C.out t.p
      have C2 := C.out t.o
      rw [h0] at C0
      rw [h1] at C1
      cases h2 : badI t.o with
      | true =>
        have HX := Aside0.mk (bad_2 h0 h1 h2)
        rw [h2] at C2
        clear h0 h1 h2
        go_enter Try.func79, Try.ntmps79
        go_wp2_with fail
        refine wp_loop_rounds 3 ?_
        rw [rounds_succ]
        go_wp2_with (go_at_call 66; (with_reducible refine C0.mono ?_); rintro e w1 ⟨rfl, rfl⟩)
        rw [rounds_succ]
        go_wp2_with (go_at_call 66; (with_reducible refine C1.mono ?_); rintro e w1 ⟨rfl, rfl⟩)
        rw [rounds_succ]
        go_wp2_with (go_at_call 66; (with_reducible refine C2.mono ?_); rintro e w1 ⟨rfl, rfl⟩)
        go_ret
        exact ⟨ret_i64' HX.out.symm, rfl⟩
      | false =>
        have HX := Aside0.mk (bad_3 h0 h1 h2)
        rw [h2] at C2
        clear h0 h1 h2
        go_enter Try.func79, Try.ntmps79
        go_wp2_with fail
        refine wp_loop_rounds 4 ?_
        rw [rounds_succ]
        go_wp2_with (go_at_call 66; (with_reducible refine C0.mono ?_); rintro e w1 ⟨rfl, rfl⟩)
        rw [rounds_succ]
        go_wp2_with (go_at_call 66; (with_reducible refine C1.mono ?_); rintro e w1 ⟨rfl, rfl⟩)
        rw [rounds_succ]
        go_wp2_with (go_at_call 66; (with_reducible refine C2.mono ?_); rintro e w1 ⟨rfl, rfl⟩)
        rw [rounds_succ]
        go_wp2_with fail
        go_ret
        exact ⟨ret_i64' HX.out.symm, rfl⟩
theorem badIx_ge (t : Tri) : decide (0 ≤ badIx t) = !okT t := by
  unfold badIx okT badI
  by_cases a : t.s < 1 <;> by_cases a2 : 1000 < t.s <;> by_cases b : t.p < 1 <;> by_cases b2 : 1000 < t.p <;> by_cases c : t.o < 1 <;> by_cases c2 : 1000 < t.o <;> simp [a, a2, b, b2, c, c2] <;> omega
theorem containsInt_any (q : Addr) (c : Nat) (t : Tri) (w : World) (h : At3 w q t) :
    Calls Try.prog 67 #[.slice (some q) 3 c, .func (.func 66) #[] #[]] w fun e w' => e = .returned (.bool (!okT t)) ∧ w = w' := by
  have C := Aside0.mk (indexInt_any q c t w h)
  have HB := Aside0.mk (badIx_ge t)
  clear h
  generalize badIx t = x at *
  go_enter Try.func67, Try.ntmps67
  go_wp2_with (go_at_call 79; (with_reducible refine C.out.mono ?_); rintro e w1 ⟨rfl, rfl⟩)
  go_ret
  exact ⟨ret_bool HB.out, rfl⟩
/-- How two triples stand. -/
def cmpT (a b : Tri) : Int := if a.s = b.s then (if a.p = b.p then (if a.o = b.o then 0 else Lib.compareInt a.o b.o) else Lib.compareInt a.p b.p) else Lib.compareInt a.s b.s
theorem cmp_same (x : Int) : Lib.compareInt x x = 0 := by simp [Lib.compareInt]
theorem cmp_not {x y : Int} (h : ¬ x = y) : (Lib.compareInt x y != 0) = true := by
  unfold Lib.compareInt
  by_cases c : x < y
  · simp [c]
  · have : x > y := by omega
    simp [c, this]
theorem cmpT_0 {a b : Tri} (h : ¬ a.s = b.s) : cmpT a b = Lib.compareInt a.s b.s := if_neg h
theorem cmpT_1 {a b : Tri} (h : a.s = b.s) (h1 : ¬ a.p = b.p) : cmpT a b = Lib.compareInt a.p b.p := by simp [cmpT, h, h1]
theorem cmpT_2 {a b : Tri} (h : a.s = b.s) (h1 : a.p = b.p) (h2 : ¬ a.o = b.o) : cmpT a b = Lib.compareInt a.o b.o := by simp [cmpT, h, h1, h2]
theorem cmpT_3 {a b : Tri} (h : a.s = b.s) (h1 : a.p = b.p) (h2 : a.o = b.o) : cmpT a b = 0 := by simp [cmpT, h, h1, h2]
theorem cmpT_less (a b : Tri) : decide (0 ≤ cmpT a b) = !lessB a b := by
  unfold cmpT lessB Lib.compareInt
  by_cases h : a.s = b.s
  · by_cases h1 : a.p = b.p
    · by_cases h2 : a.o = b.o
      · simp [h, h1, h2]
      · by_cases c : a.o < b.o
        · simp [h, h1, h2, c]
        · have : b.o < a.o := by omega
          simp [h, h1, h2, c, this]
    · by_cases c : a.p < b.p
      · simp [h, h1, c]
      · have : b.p < a.p := by omega
        simp [h, h1, c, this]
  · by_cases c : a.s < b.s
    · simp [h, c]
    · have : b.s < a.s := by omega
      simp [h, c, this]
set_option maxHeartbeats 1000000 in
theorem compare_any (q u : Addr) (c d : Nat) (a b : Tri) (w : World) (ha : At3 w q a) (hb : At3 w u b) :
    Calls Try.prog 68 #[.slice (some q) 3 c, .slice (some u) 3 d] w fun e w' => e = .returned (.int .i64 (cmpT a b)) ∧ w = w' := by
  obtain ⟨k0, k1, k2⟩ := ha
  obtain ⟨j0, j1, j2⟩ := hb
  have C0 := Aside0.mk (Try.cmp_Compare_int a.s b.s w)
  have C1 := Aside0.mk (Try.cmp_Compare_int a.p b.p w)
  have C2 := Aside0.mk (Try.cmp_Compare_int a.o b.o w)
  by_cases h : a.s = b.s
  · rw [show Lib.compareInt a.s b.s = 0 by rw [h]; exact cmp_same _] at C0
    by_cases h1 : a.p = b.p
    · rw [show Lib.compareInt a.p b.p = 0 by rw [h1]; exact cmp_same _] at C1
      by_cases h2 : a.o = b.o
      · rw [show Lib.compareInt a.o b.o = 0 by rw [h2]; exact cmp_same _] at C2
        have HX := Aside0.mk (cmpT_3 h h1 h2)
        clear h h1 h2
        go_enter Try.func68, Try.ntmps68
        go_wp2_with fail
        refine wp_loop_rounds 4 ?_
        rw [rounds_succ]
        go_wp2_with (go_at_call 80; (with_reducible refine C0.out.mono ?_); rintro e w1 ⟨rfl, rfl⟩)
        rw [rounds_succ]
        go_wp2_with (go_at_call 80; (with_reducible refine C1.out.mono ?_); rintro e w1 ⟨rfl, rfl⟩)
        rw [rounds_succ]
        go_wp2_with (go_at_call 80; (with_reducible refine C2.out.mono ?_); rintro e w1 ⟨rfl, rfl⟩)
        rw [rounds_succ]
        go_wp2_with fail
        go_ret
        exact ⟨ret_i64' HX.out.symm, rfl⟩
      · have HX := Aside0.mk (cmpT_2 h h1 h2)
        have hn := cmp_not h2
        generalize Lib.compareInt a.o b.o = y at *
        clear h h1 h2
        go_enter Try.func68, Try.ntmps68
        go_wp2_with fail
        refine wp_loop_rounds 3 ?_
        rw [rounds_succ]
        go_wp2_with (go_at_call 80; (with_reducible refine C0.out.mono ?_); rintro e w1 ⟨rfl, rfl⟩)
        rw [rounds_succ]
        go_wp2_with (go_at_call 80; (with_reducible refine C1.out.mono ?_); rintro e w1 ⟨rfl, rfl⟩)
        rw [rounds_succ]
        go_wp2_with (go_at_call 80; (with_reducible refine C2.out.mono ?_); rintro e w1 ⟨rfl, rfl⟩)
        go_ret
        exact ⟨ret_i64' HX.out.symm, rfl⟩
    · have HX := Aside0.mk (cmpT_1 h h1)
      have hn := cmp_not h1
      generalize Lib.compareInt a.p b.p = y at *
      clear h h1
      go_enter Try.func68, Try.ntmps68
      go_wp2_with fail
      refine wp_loop_rounds 2 ?_
      rw [rounds_succ]
      go_wp2_with (go_at_call 80; (with_reducible refine C0.out.mono ?_); rintro e w1 ⟨rfl, rfl⟩)
      rw [rounds_succ]
      go_wp2_with (go_at_call 80; (with_reducible refine C1.out.mono ?_); rintro e w1 ⟨rfl, rfl⟩)
      go_ret
      exact ⟨ret_i64' HX.out.symm, rfl⟩
  · have HX := Aside0.mk (cmpT_0 h)
    have hn := cmp_not h
    generalize Lib.compareInt a.s b.s = y at *
    clear h
    go_enter Try.func68, Try.ntmps68
    go_wp2_with fail
    refine wp_loop_rounds 1 ?_
    rw [rounds_succ]
    go_wp2_with (go_at_call 80; (with_reducible refine C0.out.mono ?_); rintro e w1 ⟨rfl, rfl⟩)
    go_ret
    exact ⟨ret_i64' HX.out.symm, rfl⟩
end Go.Proofs.Ytdijaobhijmknaa.Rg
