/- The law WaveWide, walked. -/
import Derived.Test.YtbcplleioklkaaaLawWave
set_option linter.unusedSimpArgs false
set_option linter.unusedVariables false
namespace Go.Proofs.Ytbcplleioklkaaa.Lw
open Go.RowKit Go.Proofs.YtbcplleioklkaaaW.PrintWords Go.Proofs.YtbcplleioklkaaaW.PrintLast Go.Proofs.YtbcplleioklkaaaW.PrintMore Go.Proofs.Ytbcplleioklkaaa.Bs Go.Proofs.Ytbcplleioklkaaa.PM Go.Proofs.Ytbcplleioklkaaa.Pk Go.Proofs.Ytbcplleioklkaaa.WM Go.Proofs.Ytbcplleioklkaaa.SM Go.Proofs.Ytbcplleioklkaaa.Wv Go.Proofs.Ytbcplleioklkaaa.Rw Go.Proofs.Ytbcplleioklkaaa.Rb
attribute [local go_sem] max2_int min2_int max_two min_two
theorem may_wider {l : List Int} {wd : Int} (h : May l wd) (h1 : wd ≤ 19) : May l (wd + 1) := by
  refine ⟨by have := h.1; omega, by omega, h.2.2.1, fun k hk => ⟨(h.2.2.2 k hk).1, ?_⟩⟩
  have h2 := (h.2.2.2 k hk).2
  have h3 : (2 : Int) ^ wd.toNat ≤ 2 ^ (wd + 1).toNat := by
    have h0 := h.1
    have := Nat.pow_le_pow_right (n := 2) (by decide) (show wd.toNat ≤ (wd + 1).toNat by omega)
    exact_mod_cast this
  omega
set_option maxRecDepth 100000 in
set_option maxHeartbeats 4000000 in
theorem waveWide_in (A : Option Addr) (c : Nat) (l : List Int) (wd v a b : Int) (w : World) (hl : l.length ≤ 100) (hm : May l wd)
    (hr : Kd.C (Kd.int .i64) w A l.length l) (hc : l.length ≤ c) (hw : ∀ x ∈ l, (Lit.int .i64 x).wf = true) (hwd : 0 ≤ wd ∧ wd ≤ 19) (hv : 0 ≤ v ∧ v ≤ 2097152) (r_v : -9223372036854775808 ≤ v ∧ v ≤ 9223372036854775807) (r_a : -9223372036854775808 ≤ a ∧ a ≤ 9223372036854775807) (r_b : -9223372036854775808 ≤ b ∧ b ≤ 9223372036854775807) :
    Calls Try.prog 16 #[.slice A l.length c, .int .i64 wd, .int .i64 v, .int .i64 a, .int .i64 b] w fun e w' => e = .returned (.bool true) ∧ Below w.heap.size w w' := by
  have C1 := Aside0.mk (fun w1 hb => refMay (n := l.length) rfl A c wd w1 (Kd.C_below (w1 := w1) hr hb) (by omega) (rows_i64 hw))
  have HB := Aside0.mk (Below.refl w.heap.size w)
  have HD : Aside0 (decide (May l wd) = true) := ⟨by simp [hm]⟩
  have C2 := Aside0.mk (fun w1 hb => new_ok A c l wd w1 (Kd.C_below (w1 := w1) hr hb) hc (by omega) (rows_i64 hw) hm)
  have HX := Aside0.mk (may_range hm)
  have hx := HX.out
  have hin : 0 ≤ wd ∧ wd ≤ 19 := hwd
  have C3 := Aside0.mk (fun w1 hb => new_ok A c l (wd + 1) w1 (Kd.C_below (w1 := w1) hr hb) hc (by omega) (rows_i64 hw) (may_wider hm hin.2))
  obtain ⟨hw0, hw1⟩ := hin
  obtain ⟨hv0, hv1⟩ := hv
  have HM := Aside0.mk hm
  clear hm hr hw hx
  go_enter Try.func16, Try.ntmps16
  go_wp2_with (first
    | (go_at_call 34; (with_reducible refine (C1.out _ HB.out).mono ?_); rintro e w3 ⟨rfl, hb⟩; rw [HD.out]; have n1 := Aside0.mk (below_step HB.out hb); clear HB; have HB := n1; clear n1; clear hb)
    | (go_at_call 35; (with_reducible refine (C2.out _ HB.out).mono ?_); rintro e w3 ⟨v, rfl, hv, hb⟩; obtain ⟨bk, rfl⟩ := IsWave.form hv; have n1 := Aside0.mk (below_step HB.out hb); clear HB; have HB := n1; clear n1; have HV := Aside0.mk hv; clear hv hb C2)
    | (go_at_call 35; (with_reducible refine (C3.out _ HB.out).mono ?_); rintro e w3 ⟨v, rfl, hv, hb⟩; obtain ⟨bk2, rfl⟩ := IsWave.form hv; have n1 := Aside0.mk (below_step HB.out hb); clear HB; have HB := n1; clear n1; have n1 := Aside0.mk (IsWave.below HV.out hb); clear HV; have HV := n1; clear n1; have HX := Aside0.mk hv; clear hv hb C3)
    | (go_at_call 36; (with_reducible refine (count_any HV.out _ _ _ _ (by omega)).mono ?_); rintro e w3 ⟨rfl, rfl⟩)
    | (go_at_call 36; (with_reducible refine (count_any HX.out _ _ _ _ (by omega)).mono ?_); rintro e w3 ⟨rfl, rfl⟩)
    | (go_at_call 37; (with_reducible refine (rank_any HV.out _ _ (by omega)).mono ?_); rintro e w3 ⟨rfl, rfl⟩)
    | (go_at_call 37; (with_reducible refine (rank_any HX.out _ _ (by omega)).mono ?_); rintro e w3 ⟨rfl, rfl⟩)
    | (go_at_call 44; (with_reducible refine (next_any HV.out _ _ _ (by omega)).mono ?_); rintro e w3 ⟨rfl, rfl⟩)
    | (go_at_call 44; (with_reducible refine (next_any HX.out _ _ _ (by omega)).mono ?_); rintro e w3 ⟨rfl, rfl⟩)
    | (go_at_call 47; (with_reducible refine (distinct_any HV.out a b (by omega)).mono ?_); rintro e w3 ⟨u, d, rfl, hd, hdl, hv, hb⟩; obtain ⟨A1, c1, e1⟩ := Kd.R_slice hv; subst e1; have n1 := Aside0.mk (below_step HB.out hb); clear HB; have HB := n1; clear n1; have n1 := Aside0.mk (IsWave.below HX.out hb); clear HX; have HX := n1; clear n1; have H1 := Aside0.mk hv; have D1 := Aside0.mk hd; have L1 := Aside0.mk hdl; clear hv hb hd hdl HV)
    | (go_at_call 47; (with_reducible refine (distinct_any HX.out a b (by omega)).mono ?_); rintro e w3 ⟨u2, d2, rfl, hd, hdl, hv, hb⟩; obtain ⟨A2, c2, e2⟩ := Kd.R_slice hv; subst e2; have n1 := Aside0.mk (below_step HB.out hb); clear HB; have HB := n1; clear n1; have e := IsDistinct.unique hd D1.out; subst e; have S1 := Aside0.mk (same_same (n := d2.length) (a := d2) rfl A1 A2 c1 c2 _ (Kd.C_below (reads_n H1.out).2.2 hb) (reads_n hv).2.2 (by have := cutI_length_le l a b; omega)); clear hv hb hd hdl)
    | (go_at_call 32; (with_reducible refine (S1.out).mono ?_); rintro e w3 ⟨rfl, hb⟩; have n1 := Aside0.mk (below_step HB.out hb); clear HB; have HB := n1; clear n1; clear hb)
    | (go_at_call 38; (with_reducible refine (known_w _).mono ?_); rintro e w3 ⟨rfl, hb⟩; have n1 := Aside0.mk (below_step HB.out hb); clear HB; have HB := n1; clear n1; clear hb))
  go_ret
  exact ⟨rfl, HB.out⟩
set_option maxRecDepth 100000 in
set_option maxHeartbeats 4000000 in
theorem waveWide_law (A : Option Addr) (c : Nat) (l : List Int) (wd v a b : Int) (w : World)
    (hr : Kd.C (Kd.int .i64) w A l.length l) (hc : l.length ≤ c) (hmx : l.length ≤ maxLen) (hy : l.length * 8 ≤ 140737488351232) (hw : ∀ x ∈ l, (Lit.int .i64 x).wf = true) (w_wd : (Lit.int .i64 wd).wf = true) (w_v : (Lit.int .i64 v).wf = true) (w_a : (Lit.int .i64 a).wf = true) (w_b : (Lit.int .i64 b).wf = true):
    Calls Try.prog 16 #[.slice A l.length c, .int .i64 wd, .int .i64 v, .int .i64 a, .int .i64 b] w fun e w' => e = .returned (.bool true) ∧ Below w.heap.size w w' := by
  by_cases h : 100 < l.length
  · clear hr hw
    go_enter Try.func16, Try.ntmps16
    go_wp2
    go_ret
    exact ⟨rfl, Below.refl _ _⟩
  · by_cases hin : 0 ≤ wd ∧ wd ≤ 19 ∧ 0 ≤ v ∧ v ≤ 2097152
    · by_cases hm : May l wd
      · exact waveWide_in A c l wd v a b w (by omega) hm hr hc hw ⟨hin.1, hin.2.1⟩ hin.2.2 (wf_i64 w_v) (wf_i64 w_a) (wf_i64 w_b)
      · have C1 := Aside0.mk (fun w1 hb => refMay (n := l.length) rfl A c wd w1 (Kd.C_below (w1 := w1) hr hb) (by omega) (rows_i64 hw))
        have HB := Aside0.mk (Below.refl w.heap.size w)
        have HD : Aside0 (decide (May l wd) = false) := ⟨by simp [hm]⟩
        have HM := Aside0.mk hm
        obtain ⟨i1, i2, i3, i4⟩ := hin
        clear hm hr hw
        go_enter Try.func16, Try.ntmps16
        go_wp2_with (first | (go_at_call 34; (with_reducible refine (C1.out _ HB.out).mono ?_); rintro e w3 ⟨rfl, hb⟩; rw [HD.out]; have n1 := Aside0.mk (below_step HB.out hb); clear HB; have HB := n1; clear n1; clear hb))
        go_ret
        exact ⟨rfl, HB.out⟩
    · clear hr hw
      have hor : wd < 0 ∨ (0 ≤ wd ∧ 19 < wd) ∨ (0 ≤ wd ∧ wd ≤ 19 ∧ v < 0) ∨ (0 ≤ wd ∧ wd ≤ 19 ∧ 0 ≤ v ∧ 2097152 < v) := by omega
      clear hin
      rcases hor with i1 | ⟨i1, i2⟩ | ⟨i1, i2, i3⟩ | ⟨i1, i2, i3, i4⟩
      all_goals
        go_enter Try.func16, Try.ntmps16
        go_wp2
        go_ret
        exact ⟨rfl, Below.refl _ _⟩
end Go.Proofs.Ytbcplleioklkaaa.Lw
