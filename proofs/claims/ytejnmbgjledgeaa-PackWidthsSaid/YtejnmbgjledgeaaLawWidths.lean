/- The law PackWidths, walked. -/
import Derived.Test.YtejnmbgjledgeaaLawb
set_option linter.unusedSimpArgs false
set_option linter.unusedVariables false
namespace Go.Proofs.Ytejnmbgjledgeaa.Lb
open Go.RowKit Go.Proofs.YtejnmbgjledgeaaW.PrintWords Go.Proofs.YtejnmbgjledgeaaW.PrintLast Go.Proofs.YtejnmbgjledgeaaW.PrintMore Go.Proofs.Ytejnmbgjledgeaa.Bs Go.Proofs.Ytejnmbgjledgeaa.PM Go.Proofs.Ytejnmbgjledgeaa.Pk Go.Proofs.Ytejnmbgjledgeaa.Rb
attribute [local go_sem] max2_int min2_int max_two min_two

theorem one_C (w : World) (n : Int) : Kd.C (Kd.int .i64) (w.alloc (.cells #[.int .i64 n] 3)) (some ⟨w.heap.size, 0, none⟩) 1 [n] := lit_C .i64 w 3 [n] (by simp)
theorem one_rd (n : Int) (h0 : -9223372036854775808 ≤ n) (h1 : n ≤ 9223372036854775807) : ∀ i : Nat, -9223372036854775808 ≤ rd [n] i ∧ rd [n] i ≤ 9223372036854775807 := fun i =>
  mem_range (by intro x hx; simp at hx; omega) (by omega) i
theorem one_may (n wd : Int) : May [n] wd ↔ 0 ≤ wd ∧ wd ≤ 20 ∧ 0 ≤ n ∧ bl n ≤ wd := by
  unfold May AllOk
  constructor
  · rintro ⟨h1, h2, _, h4⟩
    obtain ⟨h5, h6⟩ := h4 0 (by simp)
    have e : rd [n] ((0 : Nat) : Int) = n := rfl
    rw [e] at h5 h6
    refine ⟨h1, h2, h5, ?_⟩
    have := (bl_le h5 wd.toNat).2 h6
    omega
  · rintro ⟨h1, h2, h3, h4⟩
    refine ⟨h1, h2, by simp, fun k hk => ?_⟩
    have : k = 0 := by simp at hk; exact hk
    subst this
    have e : rd [n] ((0 : Nat) : Int) = n := rfl
    rw [e]
    exact ⟨h3, (bl_le h3 wd.toNat).1 (by omega)⟩
theorem bl_shift {n : Int} (h : 0 < n) : n / 2 ^ (bl n).toNat = 0 ∧ n / 2 ^ (bl n - 1).toNat = 1 := by
  obtain ⟨x, rfl⟩ := Int.eq_ofNat_of_zero_le (by omega : 0 ≤ n)
  have hx : x ≠ 0 := by omega
  have e : (bl (x : Int)).toNat = x.log2 + 1 := by unfold bl; rw [if_neg (by omega)]; simp
  have e2 : (bl (x : Int) - 1).toNat = x.log2 := by omega
  rw [e, e2]
  have h1 := Nat.lt_log2_self (n := x)
  have h2 := Nat.log2_self_le hx
  have c : ∀ k : Nat, ((2 : Int) ^ k) = ((2 ^ k : Nat) : Int) := fun k => by simp
  rw [c, c, ← Int.natCast_ediv, ← Int.natCast_ediv]
  have h3 : x / 2 ^ (x.log2 + 1) = 0 := Nat.div_eq_of_lt h1
  have h4 : x / 2 ^ x.log2 = 1 := by
    rw [Nat.pow_succ] at h1
    have hp : 0 < 2 ^ x.log2 := Nat.two_pow_pos _
    apply Nat.le_antisymm
    · have : x / 2 ^ x.log2 < 2 := (Nat.div_lt_iff_lt_mul hp).2 (by omega)
      omega
    · exact (Nat.le_div_iff_mul_le hp).2 (by omega)
  rw [h3, h4]
  exact ⟨rfl, rfl⟩
theorem widths_out (n wd : Int) (w : World) (h : wd < -1 ∨ 22 < wd) :
    Calls Try.prog 3 #[.int .i64 n, .int .i64 wd] w fun e w' => e = .returned (.bool true) ∧ Below w.heap.size w w' := by
  rcases h with h | h
  all_goals
    go_enter Try.func3, Try.ntmps3
    go_wp2
    go_ret
    exact ⟨rfl, Below.refl _ _⟩
set_option maxHeartbeats 4000000 in
theorem widths_in (n wd : Int) (w : World) (h0 : -9223372036854775808 ≤ n) (h1 : n ≤ 9223372036854775807) (hw1 : -1 ≤ wd) (hw2 : wd ≤ 22) :
    Calls Try.prog 3 #[.int .i64 n, .int .i64 wd] w fun e w' => e = .returned (.bool true) ∧ Below w.heap.size w w' := by
  have C1 := Aside0.mk (pack_n (n := 1) (l := [n]) rfl (some ⟨w.heap.size, 0, none⟩) 1 wd (w.alloc (.cells #[.int .i64 n] 3)) (one_C w n) (Nat.le_refl _) (by omega) (one_rd n h0 h1))
  have C2 := Aside0.mk (fun w1 => width_any n w1 h0 h1)
  have hm := one_may n wd
  have hr := bl_range n h1
  have hz : n ≤ 0 → bl n = 0 := fun h => bl_zero h
  have hs : 0 < n → n / 2 ^ (bl n).toNat = 0 ∧ n / 2 ^ (bl n - 1).toNat = 1 ∧ 0 < bl n := fun h => ⟨(bl_shift h).1, (bl_shift h).2, bl_pos h⟩
  have hcode : (packR [n] wd).2 = if May [n] wd then 0 else 1 := by unfold packR; split <;> rfl
  generalize bl n = b at C2 hm hr hz hs
  obtain ⟨hb0, hb1⟩ := hr
  have K := Aside0.mk (fun w1 => known_any w1)
  by_cases hn : 0 < n
  · obtain ⟨s1, s2, s3⟩ := hs hn
    have hbz : (b == 0) = false := by simp; omega
    have s4 : n / 2 ^ (b.toNat - 1) = 1 := by rw [show b.toNat - 1 = (b - 1).toNat by omega]; exact s2
    clear hz hs
    by_cases hok : May [n] wd
    · rw [if_pos hok] at hcode
      have hc := Aside0.mk hcode
      obtain ⟨g1, g2, g3, g4⟩ := hm.1 hok
      clear hcode hm hok
      go_enter Try.func3, Try.ntmps3
      go_wp2_with (first | (go_at_call 10; (with_reducible refine C1.out.mono ?_); rintro e w2 ⟨v, rfl, hv, hb⟩; rw [hc.out]; have HB2 := Aside0.mk (below_step (below_alloc (Below.refl _ _) _) hb); clear hv hb) | (go_at_call 11; (with_reducible refine (C2.out _).mono ?_); rintro e w3 ⟨rfl, rfl⟩) | (go_at_call 12; (with_reducible refine (K.out _).mono ?_); rintro e w3 ⟨rfl, hb⟩; have HB3 := Aside0.mk (below_step HB2.out hb); clear hb))
      go_ret
      exact ⟨rfl, HB3.out⟩
    · rw [if_neg hok] at hcode
      have hc := Aside0.mk hcode
      have hbad : wd < 0 ∨ (0 ≤ wd ∧ 20 < wd) ∨ (0 ≤ wd ∧ wd ≤ 20 ∧ wd < b) := by
        have : ¬ (0 ≤ wd ∧ wd ≤ 20 ∧ 0 ≤ n ∧ b ≤ wd) := fun h => hok (hm.2 h)
        omega
      clear hcode hm hok
      rcases hbad with g1 | ⟨g1, g2⟩ | ⟨g1, g2, g3⟩
      all_goals
        go_enter Try.func3, Try.ntmps3
        go_wp2_with (first | (go_at_call 10; (with_reducible refine C1.out.mono ?_); rintro e w2 ⟨v, rfl, hv, hb⟩; rw [hc.out]; have HB2 := Aside0.mk (below_step (below_alloc (Below.refl _ _) _) hb); clear hv hb) | (go_at_call 11; (with_reducible refine (C2.out _).mono ?_); rintro e w3 ⟨rfl, rfl⟩) | (go_at_call 12; (with_reducible refine (K.out _).mono ?_); rintro e w3 ⟨rfl, hb⟩; have HB3 := Aside0.mk (below_step HB2.out hb); clear hb))
        go_ret
        first | exact ⟨rfl, HB3.out⟩ | exact ⟨by rw [decide_eq_false (show ¬ b ≤ wd by omega)]; rfl, HB3.out⟩
  · have hb := hz (by omega)
    subst hb
    clear hz hs
    by_cases hok : May [n] wd
    · rw [if_pos hok] at hcode
      have hc := Aside0.mk hcode
      obtain ⟨g1, g2, g3, g4⟩ := hm.1 hok
      clear hcode hm hok
      go_enter Try.func3, Try.ntmps3
      go_wp2_with (first | (go_at_call 10; (with_reducible refine C1.out.mono ?_); rintro e w2 ⟨v, rfl, hv, hb⟩; rw [hc.out]; have HB2 := Aside0.mk (below_step (below_alloc (Below.refl _ _) _) hb); clear hv hb) | (go_at_call 11; (with_reducible refine (C2.out _).mono ?_); rintro e w3 ⟨rfl, rfl⟩) | (go_at_call 12; (with_reducible refine (K.out _).mono ?_); rintro e w3 ⟨rfl, hb⟩; have HB3 := Aside0.mk (below_step HB2.out hb); clear hb))
      go_ret
      exact ⟨rfl, HB3.out⟩
    · rw [if_neg hok] at hcode
      have hc := Aside0.mk hcode
      have hbad : n < 0 ∨ (0 ≤ n ∧ wd < 0) ∨ (0 ≤ n ∧ 0 ≤ wd ∧ 20 < wd) := by
        have : ¬ (0 ≤ wd ∧ wd ≤ 20 ∧ 0 ≤ n ∧ 0 ≤ wd) := fun h => hok (hm.2 h)
        omega
      clear hcode hm hok
      rcases hbad with g1 | ⟨g1, g2⟩ | ⟨g1, g2, g3⟩
      all_goals
        go_enter Try.func3, Try.ntmps3
        go_wp2_with (first | (go_at_call 10; (with_reducible refine C1.out.mono ?_); rintro e w2 ⟨v, rfl, hv, hb⟩; rw [hc.out]; have HB2 := Aside0.mk (below_step (below_alloc (Below.refl _ _) _) hb); clear hv hb) | (go_at_call 11; (with_reducible refine (C2.out _).mono ?_); rintro e w3 ⟨rfl, rfl⟩) | (go_at_call 12; (with_reducible refine (K.out _).mono ?_); rintro e w3 ⟨rfl, hb⟩; have HB3 := Aside0.mk (below_step HB2.out hb); clear hb))
        go_ret
        exact ⟨rfl, HB3.out⟩
theorem packWidths_law (n wd : Int) (w : World) (h0 : (Lit.int .i64 n).wf = true) (h1 : (Lit.int .i64 wd).wf = true) :
    Calls Try.prog 3 #[.int .i64 n, .int .i64 wd] w fun e w' => e = .returned (.bool true) ∧ Below w.heap.size w w' := by
  obtain ⟨a, b⟩ := wf_i64 h0
  by_cases h : wd < -1 ∨ 22 < wd
  · exact widths_out n wd w h
  · exact widths_in n wd w a b (by omega) (by omega)
end Go.Proofs.Ytejnmbgjledgeaa.Lb
