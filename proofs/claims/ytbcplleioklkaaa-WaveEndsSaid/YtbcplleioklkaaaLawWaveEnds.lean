/- The law WaveEnds, walked. -/
import Derived.Test.YtbcplleioklkaaaLawWave
set_option linter.unusedSimpArgs false
set_option linter.unusedVariables false
namespace Go.Proofs.Ytbcplleioklkaaa.Lw
open Go.RowKit Go.Proofs.YtbcplleioklkaaaW.PrintWords Go.Proofs.YtbcplleioklkaaaW.PrintLast Go.Proofs.YtbcplleioklkaaaW.PrintMore Go.Proofs.Ytbcplleioklkaaa.Bs Go.Proofs.Ytbcplleioklkaaa.PM Go.Proofs.Ytbcplleioklkaaa.Pk Go.Proofs.Ytbcplleioklkaaa.WM Go.Proofs.Ytbcplleioklkaaa.SM Go.Proofs.Ytbcplleioklkaaa.Wv Go.Proofs.Ytbcplleioklkaaa.Rw Go.Proofs.Ytbcplleioklkaaa.Rb
attribute [local go_sem] max_two min_two
set_option maxRecDepth 100000 in
set_option maxHeartbeats 4000000 in
theorem waveEnds_in (A : Option Addr) (c : Nat) (l : List Int) (wd a b : Int) (w : World) (hl : l.length ≤ 200) (hm : May l wd)
    (hr : Kd.C (Kd.int .i64) w A l.length l) (hc : l.length ≤ c) (hw : ∀ x ∈ l, (Lit.int .i64 x).wf = true) (r_a : -9223372036854775808 ≤ a ∧ a ≤ 9223372036854775807) (r_b : -9223372036854775808 ≤ b ∧ b ≤ 9223372036854775807) :
    Calls Try.prog 15 #[.slice A l.length c, .int .i64 wd, .int .i64 a, .int .i64 b] w fun e w' => e = .returned (.bool true) ∧ Below w.heap.size w w' := by
  have C1 := Aside0.mk (fun w1 hb => refMay (n := l.length) rfl A c wd w1 (Kd.C_below (w1 := w1) hr hb) (by omega) (rows_i64 hw))
  have HB := Aside0.mk (Below.refl w.heap.size w)
  have HD : Aside0 (decide (May l wd) = true) := ⟨by simp [hm]⟩
  have C2 := Aside0.mk (fun w1 hb => new_ok A c l wd w1 (Kd.C_below (w1 := w1) hr hb) hc (by omega) (rows_i64 hw) hm)
  have HX := Aside0.mk (may_range hm)
  have hx := HX.out
  obtain ⟨F0, hF0⟩ : ∃ F : Int, F = if a < 0 then 0 else a := ⟨_, rfl⟩
  obtain ⟨T0, hT0⟩ : ∃ F : Int, F = if b < 0 then 0 else b := ⟨_, rfl⟩
  obtain ⟨F, hF⟩ : ∃ F : Int, F = if (l.length : Int) < F0 then (l.length : Int) else F0 := ⟨_, rfl⟩
  obtain ⟨T, hT⟩ : ∃ F : Int, F = if (l.length : Int) < T0 then (l.length : Int) else T0 := ⟨_, rfl⟩
  obtain ⟨L, hL⟩ : ∃ L : Int, L = if T - F < 0 then 0 else T - F := ⟨_, rfl⟩
  have hFn : 0 ≤ F := by split at hF0 <;> split at hF <;> omega
  have hTn : 0 ≤ T := by split at hT0 <;> split at hT <;> omega
  have hTl : T ≤ l.length := by split at hT <;> omega
  have hFl : F ≤ l.length := by split at hF <;> omega
  have eF : F = if (l.length : Int) < (if a < 0 then 0 else a) then (l.length : Int) else (if a < 0 then 0 else a) := by rw [hF, hF0]
  have eT : T = if (l.length : Int) < (if b < 0 then 0 else b) then (l.length : Int) else (if b < 0 then 0 else b) := by rw [hT, hT0]
  have EC := Aside0.mk (cutI_clamp eF eT)
  have EL : Aside0 ((countI (cutI l a b) 0 2097152 : Int) = L) := ⟨by
    rw [countI_all (fun x h => by have := hx x (cutI_mem h); omega), cutI_clamp_length eF eT, hL]⟩
  have f1 : Builtin.max2 (.int .i64 a) (.int .i64 0) = pure (.int .i64 F0) := by rw [max2_int, ← hF0]
  have f2 : Builtin.max2 (.int .i64 b) (.int .i64 0) = pure (.int .i64 T0) := by rw [max2_int, ← hT0]
  have f3 : Builtin.min2 (.int .i64 F0) (.int .i64 l.length) = pure (.int .i64 F) := by rw [min2_int, ← hF]
  have f4 : Builtin.min2 (.int .i64 T0) (.int .i64 l.length) = pure (.int .i64 T) := by rw [min2_int, ← hT]
  have f5 : Builtin.max2 (.int .i64 (T - F)) (.int .i64 0) = pure (.int .i64 L) := by rw [max2_int, ← hL]
  clear eF eT hF hT hF0 hT0 hL
  have C4 := Aside0.mk (fun w1 a b lo (hb : Below w.heap.size w w1) => refNext (n := l.length) rfl A c a b lo w1 (Kd.C_below hr hb) hc (by omega))
  have HM := Aside0.mk hm
  clear hm hr hw hx
  go_enter Try.func15, Try.ntmps15
  go_wp2_with (first
    | (go_at_call 34; (with_reducible refine (C1.out _ HB.out).mono ?_); rintro e w3 ⟨rfl, hb⟩; rw [HD.out]; have n1 := Aside0.mk (below_step HB.out hb); clear HB; have HB := n1; clear n1; clear hb)
    | (go_at_call 35; (with_reducible refine (C2.out _ HB.out).mono ?_); rintro e w3 ⟨v, rfl, hv, hb⟩; obtain ⟨bk, rfl⟩ := IsWave.form hv; have n1 := Aside0.mk (below_step HB.out hb); clear HB; have HB := n1; clear n1; have HV := Aside0.mk hv; clear hv hb)
    | (go_at_call 36; (with_reducible refine (count_any HV.out _ _ _ _ (by omega)).mono ?_); rintro e w3 ⟨rfl, rfl⟩; rw [EL.out])
    | (go_at_call 44; (with_reducible refine (next_any HV.out _ _ _ (by omega)).mono ?_); rintro e w3 ⟨rfl, rfl⟩)
    | (go_at_call 46; (with_reducible refine (C4.out _ _ _ _ HB.out).mono ?_); rintro e w3 ⟨rfl, rfl⟩; rw [← EC.out])
    | (go_at_call 47; (with_reducible refine (distinct_any HV.out a b (by omega)).mono ?_); rintro e w3 ⟨u, d, rfl, hd, hdl, hv, hb⟩; obtain ⟨A1, c1, e1⟩ := Kd.R_slice hv; subst e1; have n1 := Aside0.mk (below_step HB.out hb); clear HB; have HB := n1; clear n1; have n1 := Aside0.mk (IsWave.below HV.out hb); clear HV; have HV := n1; clear n1; have H1 := Aside0.mk hv; have D1 := Aside0.mk hd; have L1 := Aside0.mk hdl; clear hv hb hd hdl)
    | (go_at_call 47; (with_reducible refine (distinct_any HV.out F T (by omega)).mono ?_); rintro e w3 ⟨u2, d2, rfl, hd, hdl, hv, hb⟩; obtain ⟨A2, c2, e2⟩ := Kd.R_slice hv; subst e2; have n1 := Aside0.mk (below_step HB.out hb); clear HB; have HB := n1; clear n1; have n1 := Aside0.mk (IsWave.below HV.out hb); clear HV; have HV := n1; clear n1; rw [← EC.out] at hd; have e := IsDistinct.unique hd D1.out; subst e; have S1 := Aside0.mk (same_same (n := d2.length) (a := d2) rfl A1 A2 c1 c2 _ (Kd.C_below (reads_n H1.out).2.2 hb) (reads_n hv).2.2 (by have := cutI_length_le l F T; omega)); clear hv hb hd hdl)
    | (go_at_call 32; (with_reducible refine (S1.out).mono ?_); rintro e w3 ⟨rfl, hb⟩; have n1 := Aside0.mk (IsWave.below HV.out hb); clear HV; have HV := n1; clear n1; have n1 := Aside0.mk (below_step HB.out hb); clear HB; have HB := n1; clear n1; clear hb)
    | (go_at_call 38; (with_reducible refine (known_w _).mono ?_); rintro e w3 ⟨rfl, hb⟩; have n1 := Aside0.mk (below_step HB.out hb); clear HB; have HB := n1; clear n1; clear hb))
  go_ret
  exact ⟨rfl, HB.out⟩
set_option maxRecDepth 100000 in
set_option maxHeartbeats 4000000 in
theorem waveEnds_law (A : Option Addr) (c : Nat) (l : List Int) (wd a b : Int) (w : World)
    (hr : Kd.C (Kd.int .i64) w A l.length l) (hc : l.length ≤ c) (hmx : l.length ≤ maxLen) (hy : l.length * 8 ≤ 140737488351232) (hw : ∀ x ∈ l, (Lit.int .i64 x).wf = true) (w_wd : (Lit.int .i64 wd).wf = true) (w_a : (Lit.int .i64 a).wf = true) (w_b : (Lit.int .i64 b).wf = true):
    Calls Try.prog 15 #[.slice A l.length c, .int .i64 wd, .int .i64 a, .int .i64 b] w fun e w' => e = .returned (.bool true) ∧ Below w.heap.size w w' := by
  by_cases h : 200 < l.length
  · clear hr hw
    go_enter Try.func15, Try.ntmps15
    go_wp2
    go_ret
    exact ⟨rfl, Below.refl _ _⟩
  · by_cases hm : May l wd
    · exact waveEnds_in A c l wd a b w (by omega) hm hr hc hw (wf_i64 w_a) (wf_i64 w_b)
    · have C1 := Aside0.mk (fun w1 hb => refMay (n := l.length) rfl A c wd w1 (Kd.C_below (w1 := w1) hr hb) (by omega) (rows_i64 hw))
      have HB := Aside0.mk (Below.refl w.heap.size w)
      have HD : Aside0 (decide (May l wd) = false) := ⟨by simp [hm]⟩
      have HM := Aside0.mk hm
      clear hm hr hw
      go_enter Try.func15, Try.ntmps15
      go_wp2_with (first | (go_at_call 34; (with_reducible refine (C1.out _ HB.out).mono ?_); rintro e w3 ⟨rfl, hb⟩; rw [HD.out]; have n1 := Aside0.mk (below_step HB.out hb); clear HB; have HB := n1; clear n1; clear hb))
      go_ret
      exact ⟨rfl, HB.out⟩
end Go.Proofs.Ytbcplleioklkaaa.Lw
