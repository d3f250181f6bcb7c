/- The law WaveParts, walked. -/
import Derived.Test.YtbcplleioklkaaaLawWave
set_option linter.unusedSimpArgs false
set_option linter.unusedVariables false
namespace Go.Proofs.Ytbcplleioklkaaa.Lw
open Go.RowKit Go.Proofs.YtbcplleioklkaaaW.PrintWords Go.Proofs.YtbcplleioklkaaaW.PrintLast Go.Proofs.YtbcplleioklkaaaW.PrintMore Go.Proofs.Ytbcplleioklkaaa.Bs Go.Proofs.Ytbcplleioklkaaa.PM Go.Proofs.Ytbcplleioklkaaa.Pk Go.Proofs.Ytbcplleioklkaaa.WM Go.Proofs.Ytbcplleioklkaaa.SM Go.Proofs.Ytbcplleioklkaaa.Wv Go.Proofs.Ytbcplleioklkaaa.Rw Go.Proofs.Ytbcplleioklkaaa.Rb
attribute [local go_sem] max2_int min2_int max_two min_two

theorem parts_cut {l : List Int} (hx : ∀ x ∈ l, (0 : Int) ≤ x ∧ x ≤ 1048575) {cut : Int} (h0 : 0 ≤ cut) (h1 : cut ≤ l.length) : countI (cutI l 0 cut) 0 2097152 + countI (cutI l cut l.length) 0 2097152 = l.length := by
  rw [cutI_zero, cutI_to_end, ← countI_append, List.take_append_drop]
  exact countI_all fun x h => by have := hx x h; omega
set_option maxRecDepth 100000 in
set_option maxHeartbeats 2000000 in
theorem parts_in (A : Option Addr) (c : Nat) (l : List Int) (wd cut v : Int) (w : World) (hl : l.length ≤ 200)
    (hr : Kd.C (Kd.int .i64) w A l.length l) (hc : l.length ≤ c) (hw : ∀ x ∈ l, (Lit.int .i64 x).wf = true) :
    Calls Try.prog 10 #[.slice A l.length c, .int .i64 wd, .int .i64 cut, .int .i64 v] w fun e w' => e = .returned (.bool true) ∧ Below w.heap.size w w' := by
  have C1 := Aside0.mk (refMay (n := l.length) rfl A c wd w hr (by omega) (rows_i64 hw))
  by_cases hm : May l wd
  · have HD : Aside0 (decide (May l wd) = true) := ⟨by simp [hm]⟩
    have C2 := Aside0.mk (fun w1 hb => new_ok A c l wd w1 (Kd.C_below (w1 := w1) hr hb) hc (by omega) (rows_i64 hw) hm)
    have hx := may_range hm
    by_cases hv : 0 ≤ v ∧ v ≤ 2097152
    · obtain ⟨hv0, hv1⟩ := hv
      obtain ⟨K1, hK1⟩ : ∃ K, K = countI (cutI l 0 cut) 0 2097152 := ⟨_, rfl⟩
      obtain ⟨K2, hK2⟩ : ∃ K, K = countI (cutI l cut l.length) 0 2097152 := ⟨_, rfl⟩
      obtain ⟨K3, hK3⟩ : ∃ K, K = countI (cutI l 0 l.length) 0 v := ⟨_, rfl⟩
      obtain ⟨K4, hK4⟩ : ∃ K, K = countI (cutI l 0 l.length) (v + 1) 2097152 := ⟨_, rfl⟩
      obtain ⟨K6, hK6⟩ : ∃ K, K = countI (cutI l 0 l.length) v v := ⟨_, rfl⟩
      have b1 : K1 ≤ 200 := by have := countI_le (cutI l 0 cut) 0 2097152; have := cutI_length_le l 0 cut; omega
      have b2 : K2 ≤ 200 := by have := countI_le (cutI l cut l.length) 0 2097152; have := cutI_length_le l cut l.length; omega
      have h5 : countI (cutI l 0 l.length) 0 2097152 = l.length := by rw [cutI_all]; exact countI_all fun x h => by have := hx x h; omega
      have h34 : K3 + K4 = l.length := by rw [hK3, hK4, countI_split _ 0 v 2097152 (by omega) (by omega), h5]
      have b3 : K3 ≤ 200 := by omega
      have b4 : K4 ≤ 200 := by omega
      have h34b : ((K3 : Int) + K4 == (l.length : Int)) = true := by simp; omega
      have hcut : 0 ≤ cut → cut ≤ l.length → ((K1 : Int) + K2 == (l.length : Int)) = true := fun a b => by
        have := parts_cut hx a b
        rw [← hK1, ← hK2] at this
        simp; omega
      have E1 := Aside0.mk hK1.symm
      have E2 := Aside0.mk hK2.symm
      have E3 := Aside0.mk hK3.symm
      have E4 := Aside0.mk hK4.symm
      have E5 := Aside0.mk h5
      have E6 := Aside0.mk hK6.symm
      have HCUT := Aside0.mk hcut
      clear hK1 hK2 hK3 hK4 hK6 h5 hr hw hx h34 hcut
      have HM := Aside0.mk hm
      clear hm
      have hor : cut < 0 ∨ (0 ≤ cut ∧ (l.length : Int) < cut) ∨ (0 ≤ cut ∧ cut ≤ l.length) := by omega
      rcases hor with h | ⟨h, h'⟩ | ⟨h, h'⟩
      rotate_left 2
      have hK12 := HCUT.out h h'
      all_goals
        go_enter Try.func10, Try.ntmps10
        go_wp2_with (first
          | (go_at_call 34; (with_reducible refine C1.out.mono ?_); rintro e w2 ⟨rfl, hb⟩; rw [HD.out]; have HB := Aside0.mk hb; clear hb)
          | (go_at_call 35; (with_reducible refine (C2.out _ HB.out).mono ?_); rintro e w2 ⟨v, rfl, hv, hb⟩; obtain ⟨bk, rfl⟩ := IsWave.form hv; have n1 := Aside0.mk (below_step HB.out hb); clear HB; have HB := n1; clear n1; have HV := Aside0.mk hv; clear hv hb)
          | (go_at_call 36; (with_reducible refine (count_any HV.out _ _ _ _ (by omega)).mono ?_); rintro e w3 ⟨rfl, rfl⟩; first | rw [E5.out] | rw [E1.out] | rw [E2.out] | rw [E3.out] | rw [E4.out] | rw [E6.out])
          | (go_at_call 37; (with_reducible refine (rank_any HV.out _ _ (by omega)).mono ?_); rintro e w3 ⟨rfl, rfl⟩; rw [E6.out])
          | (go_at_call 38; (with_reducible refine (known_w _).mono ?_); rintro e w3 ⟨rfl, hb⟩; have n1 := Aside0.mk (below_step HB.out hb); clear HB; have HB := n1; clear n1; clear hb))
        go_ret
        exact ⟨rfl, HB.out⟩
    · clear C2 hr hw hx
      have HM := Aside0.mk hm
      clear hm
      have hor : v < 0 ∨ (0 ≤ v ∧ 2097152 < v) := by omega
      clear hv
      rcases hor with h | ⟨h, h'⟩
      all_goals
        go_enter Try.func10, Try.ntmps10
        go_wp2_with (first
          | (go_at_call 34; (with_reducible refine C1.out.mono ?_); rintro e w2 ⟨rfl, hb⟩; rw [HD.out]; have HB := Aside0.mk hb; clear hb))
        go_ret
        exact ⟨rfl, HB.out⟩
  · have HD : Aside0 (decide (May l wd) = false) := ⟨by simp [hm]⟩
    have HM := Aside0.mk hm
    clear hm hr hw
    go_enter Try.func10, Try.ntmps10
    go_wp2_with (first
      | (go_at_call 34; (with_reducible refine C1.out.mono ?_); rintro e w2 ⟨rfl, hb⟩; rw [HD.out]; have HB := Aside0.mk hb; clear hb))
    go_ret
    exact ⟨rfl, HB.out⟩
theorem waveParts_law (A : Option Addr) (c : Nat) (l : List Int) (wd cut v : Int) (w : World)
    (hr : Kd.C (Kd.int .i64) w A l.length l) (hc : l.length ≤ c) (hm : l.length ≤ maxLen) (hy : l.length * 8 ≤ 140737488351232) (hw : ∀ x ∈ l, (Lit.int .i64 x).wf = true) (hwd : (Lit.int .i64 wd).wf = true) (h0 : (Lit.int .i64 cut).wf = true) (h1 : (Lit.int .i64 v).wf = true) :
    Calls Try.prog 10 #[.slice A l.length c, .int .i64 wd, .int .i64 cut, .int .i64 v] w fun e w' => e = .returned (.bool true) ∧ Below w.heap.size w w' := by
  by_cases h : 200 < l.length
  · clear hr hw
    go_enter Try.func10, Try.ntmps10
    go_wp2
    go_ret
    exact ⟨rfl, Below.refl _ _⟩
  · exact parts_in A c l wd cut v w (by omega) hr hc hw
end Go.Proofs.Ytbcplleioklkaaa.Lw
