/- The law WaveRanges, walked. -/
import Derived.Test.YtbcplleioklkaaaLawWave
set_option linter.unusedSimpArgs false
set_option linter.unusedVariables false
namespace Go.Proofs.Ytbcplleioklkaaa.Lw
open Go.RowKit Go.Proofs.YtbcplleioklkaaaW.PrintWords Go.Proofs.YtbcplleioklkaaaW.PrintLast Go.Proofs.YtbcplleioklkaaaW.PrintMore Go.Proofs.Ytbcplleioklkaaa.Bs Go.Proofs.Ytbcplleioklkaaa.PM Go.Proofs.Ytbcplleioklkaaa.Pk Go.Proofs.Ytbcplleioklkaaa.WM Go.Proofs.Ytbcplleioklkaaa.SM Go.Proofs.Ytbcplleioklkaaa.Wv Go.Proofs.Ytbcplleioklkaaa.Rw Go.Proofs.Ytbcplleioklkaaa.Rb
attribute [local go_sem] max2_int min2_int max_two min_two
set_option maxRecDepth 100000 in
set_option maxHeartbeats 4000000 in
theorem waveRanges_in (A : Option Addr) (c : Nat) (l : List Int) (wd a b lo hi : Int) (w : World) (hl : l.length ≤ 200) (hm : May l wd)
    (hr : Kd.C (Kd.int .i64) w A l.length l) (hc : l.length ≤ c) (hw : ∀ x ∈ l, (Lit.int .i64 x).wf = true) (r_a : -9223372036854775808 ≤ a ∧ a ≤ 9223372036854775807) (r_b : -9223372036854775808 ≤ b ∧ b ≤ 9223372036854775807) (r_lo : -9223372036854775808 ≤ lo ∧ lo ≤ 9223372036854775807) (r_hi : -9223372036854775808 ≤ hi ∧ hi ≤ 9223372036854775807) :
    Calls Try.prog 13 #[.slice A l.length c, .int .i64 wd, .int .i64 a, .int .i64 b, .int .i64 lo, .int .i64 hi] w fun e w' => e = .returned (.bool true) ∧ Below w.heap.size w w' := by
  have C1 := Aside0.mk (fun w1 hb => refMay (n := l.length) rfl A c wd w1 (Kd.C_below (w1 := w1) hr hb) (by omega) (rows_i64 hw))
  have HB := Aside0.mk (Below.refl w.heap.size w)
  have HD : Aside0 (decide (May l wd) = true) := ⟨by simp [hm]⟩
  have C2 := Aside0.mk (fun w1 hb => new_ok A c l wd w1 (Kd.C_below (w1 := w1) hr hb) hc (by omega) (rows_i64 hw) hm)
  have HX := Aside0.mk (may_range hm)
  have hx := HX.out
  have C3 := Aside0.mk (fun w1 a b lo hi (hb : Below w.heap.size w w1) => refCount (n := l.length) rfl A c a b lo hi w1 (Kd.C_below hr hb) hc (by omega))
  have C4 := Aside0.mk (fun w1 a b lo (hb : Below w.heap.size w w1) => refNext (n := l.length) rfl A c a b lo w1 (Kd.C_below hr hb) hc (by omega))
  have C5 := Aside0.mk (fun w1 a b (hb : Below w.heap.size w w1) => refDistinct (n := l.length) rfl A c a b w1 (Kd.C_below hr hb) hc (by omega) (fun x h => hx x (cutI_mem h)))
  have HM := Aside0.mk hm
  clear hm hr hw hx
  go_enter Try.func13, Try.ntmps13
  go_wp2_with (first
    | (go_at_call 34; (with_reducible refine (C1.out _ HB.out).mono ?_); rintro e w3 ⟨rfl, hb⟩; rw [HD.out]; have n1 := Aside0.mk (below_step HB.out hb); clear HB; have HB := n1; clear n1; clear hb)
    | (go_at_call 35; (with_reducible refine (C2.out _ HB.out).mono ?_); rintro e w3 ⟨v, rfl, hv, hb⟩; obtain ⟨bk, rfl⟩ := IsWave.form hv; have n1 := Aside0.mk (below_step HB.out hb); clear HB; have HB := n1; clear n1; have HV := Aside0.mk hv; clear hv hb)
    | (go_at_call 36; (with_reducible refine (count_any HV.out _ _ _ _ (by omega)).mono ?_); rintro e w3 ⟨rfl, rfl⟩)
    | (go_at_call 45; (with_reducible refine (C3.out _ _ _ _ _ HB.out).mono ?_); rintro e w3 ⟨rfl, rfl⟩)
    | (go_at_call 44; (with_reducible refine (next_any HV.out _ _ _ (by omega)).mono ?_); rintro e w3 ⟨rfl, rfl⟩)
    | (go_at_call 46; (with_reducible refine (C4.out _ _ _ _ HB.out).mono ?_); rintro e w3 ⟨rfl, rfl⟩)
    | (go_at_call 47; (with_reducible refine (distinct_any HV.out _ _ (by omega)).mono ?_); rintro e w3 ⟨u, d, rfl, hd, hdl, hv, hb⟩; obtain ⟨A1, c1, e1⟩ := Kd.R_slice hv; subst e1; have n1 := Aside0.mk (below_step HB.out hb); clear HB; have HB := n1; clear n1; have n1 := Aside0.mk (IsWave.below HV.out hb); clear HV; have HV := n1; clear n1; have H1 := Aside0.mk hv; have D1 := Aside0.mk hd; have L1 := Aside0.mk hdl; clear hv hb hd hdl)
    | (go_at_call 48; (with_reducible refine (C5.out _ _ _ HB.out).mono ?_); rintro e w3 ⟨u2, d2, rfl, hd, hdl, hv, hb⟩; obtain ⟨A2, c2, e2⟩ := Kd.R_slice hv; subst e2; have n1 := Aside0.mk (below_step HB.out hb); clear HB; have HB := n1; clear n1; have e := IsDistinct.unique hd D1.out; subst e; have S1 := Aside0.mk (same_same (n := d2.length) (a := d2) rfl A1 A2 c1 c2 _ (Kd.C_below (reads_n H1.out).2.2 hb) (reads_n hv).2.2 (by omega)); clear hv hb hd)
    | (go_at_call 32; (with_reducible refine (S1.out).mono ?_); rintro e w3 ⟨rfl, hb⟩; have n1 := Aside0.mk (below_step HB.out hb); clear HB; have HB := n1; clear n1; clear hb)
    | (go_at_call 38; (with_reducible refine (known_w _).mono ?_); rintro e w3 ⟨rfl, hb⟩; have n1 := Aside0.mk (below_step HB.out hb); clear HB; have HB := n1; clear n1; clear hb))
  go_ret
  exact ⟨rfl, HB.out⟩
set_option maxRecDepth 100000 in
set_option maxHeartbeats 4000000 in
theorem waveRanges_law (A : Option Addr) (c : Nat) (l : List Int) (wd a b lo hi : Int) (w : World)
    (hr : Kd.C (Kd.int .i64) w A l.length l) (hc : l.length ≤ c) (hmx : l.length ≤ maxLen) (hy : l.length * 8 ≤ 140737488351232) (hw : ∀ x ∈ l, (Lit.int .i64 x).wf = true) (w_wd : (Lit.int .i64 wd).wf = true) (w_a : (Lit.int .i64 a).wf = true) (w_b : (Lit.int .i64 b).wf = true) (w_lo : (Lit.int .i64 lo).wf = true) (w_hi : (Lit.int .i64 hi).wf = true):
    Calls Try.prog 13 #[.slice A l.length c, .int .i64 wd, .int .i64 a, .int .i64 b, .int .i64 lo, .int .i64 hi] w fun e w' => e = .returned (.bool true) ∧ Below w.heap.size w w' := by
  by_cases h : 200 < l.length
  · clear hr hw
    go_enter Try.func13, Try.ntmps13
    go_wp2
    go_ret
    exact ⟨rfl, Below.refl _ _⟩
  · by_cases hm : May l wd
    · exact waveRanges_in A c l wd a b lo hi w (by omega) hm hr hc hw (wf_i64 w_a) (wf_i64 w_b) (wf_i64 w_lo) (wf_i64 w_hi)
    · have C1 := Aside0.mk (fun w1 hb => refMay (n := l.length) rfl A c wd w1 (Kd.C_below (w1 := w1) hr hb) (by omega) (rows_i64 hw))
      have HB := Aside0.mk (Below.refl w.heap.size w)
      have HD : Aside0 (decide (May l wd) = false) := ⟨by simp [hm]⟩
      have HM := Aside0.mk hm
      clear hm hr hw
      go_enter Try.func13, Try.ntmps13
      go_wp2_with (first | (go_at_call 34; (with_reducible refine (C1.out _ HB.out).mono ?_); rintro e w3 ⟨rfl, hb⟩; rw [HD.out]; have n1 := Aside0.mk (below_step HB.out hb); clear HB; have HB := n1; clear n1; clear hb))
      go_ret
      exact ⟨rfl, HB.out⟩
end Go.Proofs.Ytbcplleioklkaaa.Lw
