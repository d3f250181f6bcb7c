/- The law WaveNext, walked. -/
import Derived.Test.YtbcplleioklkaaaLawWave
set_option linter.unusedSimpArgs false
set_option linter.unusedVariables false
namespace Go.Proofs.Ytbcplleioklkaaa.Lw
open Go.RowKit Go.Proofs.YtbcplleioklkaaaW.PrintWords Go.Proofs.YtbcplleioklkaaaW.PrintLast Go.Proofs.YtbcplleioklkaaaW.PrintMore Go.Proofs.Ytbcplleioklkaaa.Bs Go.Proofs.Ytbcplleioklkaaa.PM Go.Proofs.Ytbcplleioklkaaa.Pk Go.Proofs.Ytbcplleioklkaaa.WM Go.Proofs.Ytbcplleioklkaaa.SM Go.Proofs.Ytbcplleioklkaaa.Wv Go.Proofs.Ytbcplleioklkaaa.Rw Go.Proofs.Ytbcplleioklkaaa.Rb
attribute [local go_sem] max2_int min2_int max_two min_two
set_option maxRecDepth 100000 in
set_option maxHeartbeats 4000000 in
theorem waveNext_in (A : Option Addr) (c : Nat) (l : List Int) (wd a b : Int) (w : World) (hl : l.length ≤ 200) (hm : May l wd)
    (hr : Kd.C (Kd.int .i64) w A l.length l) (hc : l.length ≤ c) (hw : ∀ x ∈ l, (Lit.int .i64 x).wf = true) (r_a : -9223372036854775808 ≤ a ∧ a ≤ 9223372036854775807) (r_b : -9223372036854775808 ≤ b ∧ b ≤ 9223372036854775807) :
    Calls Try.prog 14 #[.slice A l.length c, .int .i64 wd, .int .i64 a, .int .i64 b] w fun e w' => e = .returned (.bool true) ∧ Below w.heap.size w w' := by
  have C1 := Aside0.mk (fun w1 hb => refMay (n := l.length) rfl A c wd w1 (Kd.C_below (w1 := w1) hr hb) (by omega) (rows_i64 hw))
  have HB := Aside0.mk (Below.refl w.heap.size w)
  have HD : Aside0 (decide (May l wd) = true) := ⟨by simp [hm]⟩
  have C2 := Aside0.mk (fun w1 hb => new_ok A c l wd w1 (Kd.C_below (w1 := w1) hr hb) hc (by omega) (rows_i64 hw) hm)
  have HX := Aside0.mk (may_range hm)
  have hx := HX.out
  have hlc := cutI_length_le l a b
  have hx0 : ∀ x ∈ cutI l a b, (0 : Int) ≤ x ∧ x ≤ 1048575 := fun x h => hx x (cutI_mem h)
  obtain ⟨xs, hxs⟩ : ∃ xs, xs = cutI l a b := ⟨_, rfl⟩
  have HXS := Aside0.mk hxs.symm
  rw [← hxs] at hx0 hlc
  have HX0 := Aside0.mk hx0
  clear hx0 hxs
  have HM := Aside0.mk hm
  clear hm hr hw hx
  go_enter Try.func14, Try.ntmps14
  go_wp2_with (first
    | (go_at_call 34; (with_reducible refine (C1.out _ HB.out).mono ?_); rintro e w3 ⟨rfl, hb⟩; rw [HD.out]; have n1 := Aside0.mk (below_step HB.out hb); clear HB; have HB := n1; clear n1; clear hb)
    | (go_at_call 35; (with_reducible refine (C2.out _ HB.out).mono ?_); rintro e w3 ⟨v, rfl, hv, hb⟩; obtain ⟨bk, rfl⟩ := IsWave.form hv; have n1 := Aside0.mk (below_step HB.out hb); clear HB; have HB := n1; clear n1; have HV := Aside0.mk hv; clear hv hb)
    | (go_at_call 47; (with_reducible refine (distinct_any HV.out _ _ (by omega)).mono ?_); rintro e w3 ⟨u, d, rfl, hd, hdl, hv, hb⟩; rw [HXS.out] at hd hdl; obtain ⟨A1, c1, e1⟩ := Kd.R_slice hv; subst e1; have n1 := Aside0.mk (below_step HB.out hb); clear HB; have HB := n1; clear n1; have n1 := Aside0.mk (IsWave.below HV.out hb); clear HV; have HV := n1; clear n1; have H1 := Aside0.mk hv; have D1 := Aside0.mk hd; have HC := Aside0.mk (fun w1 (hb : Below w3.heap.size w3 w1) => Kd.C_below (reads_n hv).2.2 hb); have HB3 := Aside0.mk (Below.refl w3.heap.size w3); clear hv hb hd))
  clear C1 C2
  go_loopw [12, 13] (fun y x wr => ∃ (i : Nat) (z : Int), x = .int .i64 i ∧ y = .int .i64 z ∧ i ≤ d.length ∧ 0 ≤ z ∧ z ≤ 1048576 ∧ Aside0 (Below w.heap.size w wr) ∧ Aside0 (Below w3.heap.size w3 wr) ∧ Aside0 (IsWave wr (.pointer (some ⟨bk, 0, none⟩)) l) ∧ Aside0 (z = if i = 0 then 0 else rd d (i - 1 : Nat) + 1)) (fun _ x _ => d.length - (intOf x).toNat)
  case atStart => exact ⟨0, 0, rfl, rfl, by omega, by omega, by omega, HB, HB3, HV, ⟨rfl⟩⟩
  case round =>
    clear HB HB3 HV
    obtain ⟨i, z, rfl, rfl, hi, hz0, hz1, HB, HB3, HV, HZ⟩ := hrel
    have HN := Aside0.mk (distinct_next (fun x h => (HX0.out x h).1) D1.out i hi z HZ.out)
    by_cases hlt : i < d.length
    · obtain ⟨ad, e1, hcell⟩ := at_arg (HC.out _ HB3.out) i hlt
      cases e1
      have hmem : rd d i ∈ xs := (D1.out.2 _).1 (by rw [rd_nat]; simp [hlt])
      have hr0 := HX0.out _ hmem
      have hge : z ≤ rd d i := by
        rw [HZ.out]
        by_cases c0 : i = 0
        · rw [if_pos c0]; exact hr0.1
        · rw [if_neg c0]
          have := List.pairwise_iff_getElem.1 D1.out.1 (i - 1) i (by omega) hlt (by omega)
          have e1 : rd d (i - 1 : Nat) = d[i - 1] := by rw [rd_nat]; simp [show i - 1 < d.length by omega]
          have e2 : rd d i = d[i] := by rw [rd_nat]; simp [hlt]
          omega
      have HN2 : Aside0 (nextI xs z = rd d i) := ⟨by rw [HN.out, if_pos hlt]⟩
      have HCT := Aside0.mk (countI_pos hmem)
      clear hmem
      obtain ⟨x, hx⟩ : ∃ x, x = rd d i := ⟨_, rfl⟩
      obtain ⟨K, hK⟩ : ∃ K, K = countI xs x x := ⟨_, rfl⟩
      rw [← hx] at HN2 HCT hcell hr0 hge
      rw [← hK] at HCT
      have hK1 := HCT.out
      have TK := Aside0.mk hK.symm
      have TX := Aside0.mk hx
      have hK2 : K ≤ 200 := by rw [hK]; have := countI_le xs x x; omega
      have HVN : Aside0 (∀ n, IsWave (wr.drewN n) (.pointer (some ⟨bk, 0, none⟩)) l) := ⟨fun n => IsWave.below HV.out (pw_below_drewN (Below.refl wr.heap.size wr) n)⟩
      have HBN : Aside0 (∀ n, Below w.heap.size w (wr.drewN n)) := ⟨fun n => pw_below_drewN HB.out n⟩
      have HBN3 : Aside0 (∀ n, Below w3.heap.size w3 (wr.drewN n)) := ⟨fun n => pw_below_drewN HB3.out n⟩
      have QN : Aside0 (∀ n, Calls Try.prog 44 #[.pointer (some ⟨bk, 0, none⟩), .int .i64 a, .int .i64 b, .int .i64 z] (wr.drewN n) fun e w' => e = .returned (.int .i64 x) ∧ w' = wr.drewN n) := ⟨fun n => (next_any (HVN.out n) a b z (by omega)).mono fun e w' h => ⟨by rw [h.1, HXS.out, HN2.out], h.2.symm⟩⟩
      have QC : Aside0 (∀ n, Calls Try.prog 36 #[.pointer (some ⟨bk, 0, none⟩), .int .i64 a, .int .i64 b, .int .i64 x, .int .i64 x] (wr.drewN n) fun e w' => e = .returned (.int .i64 K) ∧ w' = wr.drewN n) := ⟨fun n => (count_any (HVN.out n) a b x x (by omega)).mono fun e w' h => ⟨by rw [h.1, HXS.out, TK.out], h.2.symm⟩⟩
      have g1 : decide (x < z) = false := by simp; omega
      have g2 : decide ((K : Int) < 1) = false := by simp; omega
      clear hx hK
      go_wp2
      go_quiet (first
        | (go_at_call 44; exact Calls.quiet_of_same (QN.out _))
        | (go_at_call 36; exact Calls.quiet_of_same (QC.out _)))
      go_wp2
      go_roundw
      case rel =>
        refine ⟨i + 1, x + 1, by go_num, by go_num, by omega, by omega, by omega, ⟨HBN.out _⟩, ⟨HBN3.out _⟩, ⟨HVN.out _⟩, ⟨?_⟩⟩
        rw [if_neg (by omega), TX.out]
        rfl
      case measure => simp [intOf]; omega
    · have hin : i = d.length := by omega
      subst hin
      have HN2 : Aside0 (nextI xs z = -1) := ⟨by rw [HN.out, if_neg (by omega)]⟩
      go_wp2_with (first
        | (go_at_call 44; (with_reducible refine (next_any HV.out _ _ _ (by omega)).mono ?_); rintro e w3 ⟨rfl, rfl⟩; rw [HXS.out, HN2.out])
        | (go_at_call 38; (with_reducible refine (known_w _).mono ?_); rintro e w3 ⟨rfl, hb⟩; have n1 := Aside0.mk (below_step HB.out hb); clear HB; have HB := n1; clear n1; clear hb))
      go_ret
      exact ⟨rfl, HB.out⟩
set_option maxRecDepth 100000 in
set_option maxHeartbeats 4000000 in
theorem waveNext_law (A : Option Addr) (c : Nat) (l : List Int) (wd a b : Int) (w : World)
    (hr : Kd.C (Kd.int .i64) w A l.length l) (hc : l.length ≤ c) (hmx : l.length ≤ maxLen) (hy : l.length * 8 ≤ 140737488351232) (hw : ∀ x ∈ l, (Lit.int .i64 x).wf = true) (w_wd : (Lit.int .i64 wd).wf = true) (w_a : (Lit.int .i64 a).wf = true) (w_b : (Lit.int .i64 b).wf = true):
    Calls Try.prog 14 #[.slice A l.length c, .int .i64 wd, .int .i64 a, .int .i64 b] w fun e w' => e = .returned (.bool true) ∧ Below w.heap.size w w' := by
  by_cases h : 200 < l.length
  · clear hr hw
    go_enter Try.func14, Try.ntmps14
    go_wp2
    go_ret
    exact ⟨rfl, Below.refl _ _⟩
  · by_cases hm : May l wd
    · exact waveNext_in A c l wd a b w (by omega) hm hr hc hw (wf_i64 w_a) (wf_i64 w_b)
    · have C1 := Aside0.mk (fun w1 hb => refMay (n := l.length) rfl A c wd w1 (Kd.C_below (w1 := w1) hr hb) (by omega) (rows_i64 hw))
      have HB := Aside0.mk (Below.refl w.heap.size w)
      have HD : Aside0 (decide (May l wd) = false) := ⟨by simp [hm]⟩
      have HM := Aside0.mk hm
      clear hm hr hw
      go_enter Try.func14, Try.ntmps14
      go_wp2_with (first | (go_at_call 34; (with_reducible refine (C1.out _ HB.out).mono ?_); rintro e w3 ⟨rfl, hb⟩; rw [HD.out]; have n1 := Aside0.mk (below_step HB.out hb); clear HB; have HB := n1; clear n1; clear hb))
      go_ret
      exact ⟨rfl, HB.out⟩
end Go.Proofs.Ytbcplleioklkaaa.Lw
