/- The law RingCols: the least number of a column is that of the first that match, in that column's order. -/
import Derived.Test.YtdijaobhijmknaaRingP
import Derived.Test.YtdijaobhijmknaaOpenT
set_option linter.unusedSimpArgs false
set_option linter.unusedVariables false
namespace Go.Proofs.Ytdijaobhijmknaa.Rg
open Go Go.RowKit Go.Proofs.YtdijaobhijmknaaW.PrintWords Go.Proofs.YtdijaobhijmknaaW.PrintLast Go.Proofs.YtdijaobhijmknaaW.PrintMore
attribute [local go_sem] max2_int min2_int max_two min_two

theorem best_step {a : List Tri} {z : Tri} {i : Nat} (col : Nat) (h : i < a.length) : bestL col (a.take (i + 1)) = if bestL col (a.take i) = 0 ∨ (a.getD i z).at col < bestL col (a.take i) then (a.getD i z).at col else bestL col (a.take i) := by
  unfold bestL
  rw [take_snoc (z := z) h, List.foldl_append]; rfl
theorem best_case (x b : Int) : ((b == 0) = true ∧ (if b = 0 ∨ x < b then x else b) = x) ∨ ((b == 0) = false ∧ x < b ∧ (if b = 0 ∨ x < b then x else b) = x) ∨ ((b == 0) = false ∧ decide (x < b) = false ∧ (if b = 0 ∨ x < b then x else b) = b) := by
  by_cases c : b = 0
  · exact .inl ⟨by simp [c], if_pos (.inl c)⟩
  · by_cases d : x < b
    · exact .inr (.inl ⟨by simp [c], d, if_pos (.inr d)⟩)
    · exact .inr (.inr ⟨by simp [c], decide_eq_false d, if_neg (fun h => h.elim c d)⟩)
theorem next_low {l : List Tri} (p : Tri) (k : Nat) (v : Int) (hm : mayB l = true) (hk : k < 3) (hv : v ≤ 1) : nextC l p (k : Int) v = bestL k (allL l p) := by
  unfold nextC
  rw [if_pos (by omega), Int.toNat_natCast]
  exact next_best (fun t ht => by have := ok_at (may_ok hm t ht) k hk; omega)
theorem next_high {l : List Tri} (p : Tri) (k : Nat) (v : Int) (hm : mayB l = true) (hk : k < 3) (hv : 1000 < v) : nextC l p (k : Int) v = 0 := by
  unfold nextC
  rw [if_pos (by omega), Int.toNat_natCast]
  exact next_far_from l 0 (fun t ht => by have := ok_at (may_ok hm t ht) k hk; omega)
theorem nextC_out (l : List Tri) (p : Tri) (c v : Int) (h : c < 0 ∨ 2 < c) : nextC l p c v = 0 := by
  unfold nextC
  rw [if_neg (by omega)]
theorem cols_long (A : Option Addr) (c : Nat) (l : List Tri) (p : Tri) (w : World) (hl : 60 < l.length) :
    Calls Try.prog 19 #[.slice A l.length c, p.val] w fun e w' => e = .returned (.bool true) ∧ Below w.heap.size w w' := by
  have hl2 : (60 : Int) < (l.length : Int) := by omega
  unfold Tri.val
  clear hl
  go_enter Try.func19, Try.ntmps19
  go_wp2_with fail
  go_ret
  exact ⟨rfl, below_alloc (Below.refl _ _) _⟩
theorem cols_no (A : Option Addr) (c : Nat) (l : List Tri) (p : Tri) (w : World) (hr : Kd.C kT w A l.length l) (hl : l.length ≤ 60) (hm : mayB l = false) :
    Calls Try.prog 19 #[.slice A l.length c, p.val] w fun e w' => e = .returned (.bool true) ∧ Below w.heap.size w w' := by
  obtain ⟨wb, hwb, HX0, HW, HWS⟩ := boxed_world w p 54
  have CM := Aside0.mk (refMay_any A c l wb (Kd.C_below hr HW.out) (by omega))
  rw [hm] at CM
  obtain ⟨n, hn⟩ : ∃ n, n = l.length := ⟨_, rfl⟩
  rw [← hn] at CM hl ⊢
  have hl2 : (n : Int) ≤ 60 := by omega
  unfold Tri.val
  rw [hwb] at CM HW
  clear hr hn hm hl hwb HX0 HWS
  go_enter Try.func19, Try.ntmps19
  go_wp2_with (first
    | (go_at_call 46; (with_reducible refine CM.out.mono ?_); rintro e w2 ⟨rfl, hb⟩; have HB2 := Aside0.mk (below_step HW.out hb); clear hb))
  go_ret
  exact ⟨rfl, HB2.out⟩
set_option maxRecDepth 100000 in
set_option maxHeartbeats 4000000 in
theorem cols_yes (A : Option Addr) (c : Nat) (l : List Tri) (p : Tri) (w : World) (hr : Kd.C kT w A l.length l) (hl : l.length ≤ 60) (hm : mayB l = true) :
    Calls Try.prog 19 #[.slice A l.length c, p.val] w fun e w' => e = .returned (.bool true) ∧ Below w.heap.size w w' := by
  obtain ⟨z, hz⟩ : ∃ z : Tri, z = ⟨0, 0, 0⟩ := ⟨_, rfl⟩
  obtain ⟨wb, hwb, HX0, HW, HWS⟩ := boxed_world w p 54
  have HL0 := Kd.C_below hr HW.out
  have CM := Aside0.mk (refMay_any A c l wb HL0 (by omega))
  rw [hm] at CM
  have CN0 := Aside0.mk (fun W (hb : Below wb.heap.size wb W) => new_ok A c l W (Kd.C_below HL0 hb) hm)
  have CA := Aside0.mk (fun r W (h : IsL W r l) => all_any (r := r) p l W h (by omega))
  obtain ⟨a, ha⟩ : ∃ a, a = allL l p := ⟨_, rfl⟩
  have hal : a.length ≤ l.length := by rw [ha]; exact allL_len l p
  obtain ⟨b0, hb0⟩ : ∃ b, b = bestL 0 a := ⟨_, rfl⟩
  have C0a := Aside0.mk (fun r W (h : IsRing W r l) => next_any (r := r) p 0 0 l W h (by omega))
  have C0b := Aside0.mk (fun r W (h : IsRing W r l) => next_any (r := r) p 0 (-5) l W h (by omega))
  have C0c := Aside0.mk (fun r W (h : IsRing W r l) => next_any (r := r) p 0 2000 l W h (by omega))
  rw [show nextC l p 0 0 = b0 from by rw [hb0, ha]; exact next_low p 0 0 hm (by decide) (by decide)] at C0a
  rw [show nextC l p 0 (-5) = b0 from by rw [hb0, ha]; exact next_low p 0 (-5) hm (by decide) (by decide)] at C0b
  rw [show nextC l p 0 2000 = 0 from next_high p 0 2000 hm (by decide) (by decide)] at C0c
  have HS0 := Aside0.mk (fun i (hi : i < a.length) => best_step (a := a) (z := z) (i := i) 0 hi)
  have HV0 : Aside0 (bestL 0 (a.take a.length) = b0) := ⟨by rw [List.take_length]; exact hb0.symm⟩
  obtain ⟨b1, hb1⟩ : ∃ b, b = bestL 1 a := ⟨_, rfl⟩
  have C1a := Aside0.mk (fun r W (h : IsRing W r l) => next_any (r := r) p 1 0 l W h (by omega))
  have C1b := Aside0.mk (fun r W (h : IsRing W r l) => next_any (r := r) p 1 (-5) l W h (by omega))
  have C1c := Aside0.mk (fun r W (h : IsRing W r l) => next_any (r := r) p 1 2000 l W h (by omega))
  rw [show nextC l p 1 0 = b1 from by rw [hb1, ha]; exact next_low p 1 0 hm (by decide) (by decide)] at C1a
  rw [show nextC l p 1 (-5) = b1 from by rw [hb1, ha]; exact next_low p 1 (-5) hm (by decide) (by decide)] at C1b
  rw [show nextC l p 1 2000 = 0 from next_high p 1 2000 hm (by decide) (by decide)] at C1c
  have HS1 := Aside0.mk (fun i (hi : i < a.length) => best_step (a := a) (z := z) (i := i) 1 hi)
  have HV1 : Aside0 (bestL 1 (a.take a.length) = b1) := ⟨by rw [List.take_length]; exact hb1.symm⟩
  obtain ⟨b2, hb2⟩ : ∃ b, b = bestL 2 a := ⟨_, rfl⟩
  have C2a := Aside0.mk (fun r W (h : IsRing W r l) => next_any (r := r) p 2 0 l W h (by omega))
  have C2b := Aside0.mk (fun r W (h : IsRing W r l) => next_any (r := r) p 2 (-5) l W h (by omega))
  have C2c := Aside0.mk (fun r W (h : IsRing W r l) => next_any (r := r) p 2 2000 l W h (by omega))
  rw [show nextC l p 2 0 = b2 from by rw [hb2, ha]; exact next_low p 2 0 hm (by decide) (by decide)] at C2a
  rw [show nextC l p 2 (-5) = b2 from by rw [hb2, ha]; exact next_low p 2 (-5) hm (by decide) (by decide)] at C2b
  rw [show nextC l p 2 2000 = 0 from next_high p 2 2000 hm (by decide) (by decide)] at C2c
  have HS2 := Aside0.mk (fun i (hi : i < a.length) => best_step (a := a) (z := z) (i := i) 2 hi)
  have HV2 : Aside0 (bestL 2 (a.take a.length) = b2) := ⟨by rw [List.take_length]; exact hb2.symm⟩
  have C3 := Aside0.mk (fun r W (h : IsRing W r l) => next_any (r := r) p 3 0 l W h (by omega))
  rw [show nextC l p 3 0 = 0 from nextC_out l p 3 0 (by decide)] at C3
  have C4 := Aside0.mk (fun r W (h : IsRing W r l) => next_any (r := r) p (-1) 0 l W h (by omega))
  rw [show nextC l p (-1) 0 = 0 from nextC_out l p (-1) 0 (by decide)] at C4
  rw [← ha] at CA
  have CK := Aside0.mk known_any
  obtain ⟨n, hn⟩ : ∃ n, n = l.length := ⟨_, rfl⟩
  rw [← hn] at CN0 CM hal hl ⊢
  obtain ⟨m, hmm⟩ : ∃ m, m = a.length := ⟨_, rfl⟩
  rw [← hmm] at hal HS0 HS1 HS2 HV0 HV1 HV2
  have HM := Aside0.mk hmm
  have hl2 : (n : Int) ≤ 60 := by omega
  have HWB := Aside0.mk hwb
  unfold Tri.val at *
  rw [hwb] at CM CN0 HW HX0
  clear hr hn hm hwb HWS ha hb0 hb1 hb2 hz hmm HL0
  go_enter Try.func19, Try.ntmps19
  go_wp2_with (first
    | (go_at_call 46; (with_reducible refine CM.out.mono ?_); rintro e w1 ⟨rfl, hb⟩; have HB1 := Aside0.mk (below_step HW.out hb); have HX1 := Aside0.mk (HX0.out.below hb); have HN1 := Aside0.mk hb; clear hb)
    | (go_at_call 45; (with_reducible refine (CN0.out _ HN1.out).mono ?_); rintro e w2 ⟨r, rfl, hr, _, hb⟩; have HB2 := Aside0.mk (below_step HB1.out hb); have HX2 := Aside0.mk (HX1.out.below hb); have HR2 := Aside0.mk hr; obtain ⟨rb, e5⟩ := hr.ptr; subst e5; obtain ⟨x0, x1, x2⟩ := HX2.out; clear hb hr)
    | (go_at_call 52; (with_reducible refine (CA.out _ _ HR2.out.l).mono ?_); rintro e w3 hw; obtain ⟨A3, c3, rfl, hv, hb⟩ := row_len hw; have HA3 := Aside0.mk (Bs.reads_n hv).2.2; rw [← HM.out] at HA3; have HB3 := Aside0.mk (below_step HB2.out hb); have HX3 := Aside0.mk (HX2.out.below hb); have HR3 := Aside0.mk (HR2.out.below hb); clear hw hv hb x0 x1 x2))
  rw [← HM.out]
  go_loopw [8] (fun x wr => ∃ k : Nat, k ≤ 3 ∧ x = .int .i64 k ∧ Aside0 (Boxed wr w.heap.size p) ∧ Aside0 (IsRing wr (.pointer (some ⟨rb, 0, none⟩)) l) ∧ Aside0 (Kd.C kT wr A3 m a) ∧ Aside0 (Below w.heap.size w wr)) (fun x _ => 3 - (intOf x).toNat)
  case atStart => exact ⟨0, by omega, rfl, HX3, HR3, HA3, HB3⟩
  case round =>
    clear HX3 HR3 HA3 HB3 HX2 HR2 HB2 HX1 HB1 HN1
    obtain ⟨wr2, rfl⟩ : ∃ x, x = wr := ⟨wr, rfl⟩
    obtain ⟨k, hk, rfl, HX, HR, HA, HB⟩ := hrel
    obtain ⟨x0, x1, x2⟩ := HX.out
    have h3 : k = 0 ∨ k = 1 ∨ k = 2 ∨ k = 3 := by omega
    rcases h3 with rfl | rfl | rfl | rfl
    · rw [show ((0 : Nat) : Int) = 0 from rfl]
      go_wp2_with fail
      go_loop [9, 10] (fun y x => ∃ (i : Nat) (b : Int), i ≤ m ∧ x = .int .i64 i ∧ y = .int .i64 b ∧ Aside0 (b = bestL 0 (a.take i))) (fun _ x => m - (intOf x).toNat)
      case atStart => exact ⟨0, 0, by omega, rfl, rfl, ⟨rfl⟩⟩
      case round =>
        obtain ⟨i, b, hi, rfl, rfl, HE⟩ := hrel
        by_cases hlt : i < m
        · have hs := HS0.out i hlt
          obtain ⟨ad, rfl, k0, k1, k2⟩ := at3_of HA.out i hlt z
          obtain ⟨t, ht⟩ : ∃ t, t = a.getD i z := ⟨_, rfl⟩
          rw [← ht] at k0 k1 k2
          rw [← HE.out, ← ht] at hs
          have hi2 : (0 : Int) ≤ (i : Int) := by omega
          have hi3 : (i : Int) < (m : Int) := by omega
          have hi4 : (i : Int) ≤ (n : Int) := by omega
          rcases (show ((b == 0) = true ∧ (if b = 0 ∨ t.at 0 < b then t.at 0 else b) = t.s) ∨ ((b == 0) = false ∧ t.s < b ∧ (if b = 0 ∨ t.at 0 < b then t.at 0 else b) = t.s) ∨ ((b == 0) = false ∧ decide (t.s < b) = false ∧ (if b = 0 ∨ t.at 0 < b then t.at 0 else b) = b) from best_case (t.at 0) b) with ⟨c1, c3⟩ | ⟨c1, c2, c3⟩ | ⟨c1, c2, c3⟩
          all_goals
            rw [c3] at hs
            have HS := Aside0.mk hs
            clear hs c3 ht HS0 HS1 HS2 HV0 HV1 HV2
            go_wp2_with fail
            go_round
            case rel => exact ⟨i + 1, _, by omega, by go_num, rfl, ⟨HS.out.symm⟩⟩
            case measure => simp [intOf]; omega
        · have him : i = m := by omega
          subst him
          have hbe : b = b0 := HE.out.trans HV0.out
          subst hbe
          clear HE hlt
          go_wp2_with (first
            | (go_at_call 53; (with_reducible refine (C0a.out _ _ HR.out).mono ?_); rintro e w5 ⟨rfl, hb⟩; have HB5 := Aside0.mk (below_step HB.out hb); have HX5 := Aside0.mk (HX.out.below hb); have HR5 := Aside0.mk (HR.out.below hb); have HA5 := Aside0.mk (Kd.C_below HA.out hb); obtain ⟨y0, y1, y2⟩ := HX5.out; clear hb)
            | (go_at_call 53; (with_reducible refine (C0b.out _ _ HR5.out).mono ?_); rintro e w6 ⟨rfl, hb⟩; have HB6 := Aside0.mk (below_step HB5.out hb); have HX6 := Aside0.mk (HX5.out.below hb); have HR6 := Aside0.mk (HR5.out.below hb); have HA6 := Aside0.mk (Kd.C_below HA5.out hb); obtain ⟨z0, z1, z2⟩ := HX6.out; clear hb)
            | (go_at_call 53; (with_reducible refine (C0c.out _ _ HR6.out).mono ?_); rintro e w7 ⟨rfl, hb⟩; have HB7 := Aside0.mk (below_step HB6.out hb); have HX7 := Aside0.mk (HX6.out.below hb); have HR7 := Aside0.mk (HR6.out.below hb); have HA7 := Aside0.mk (Kd.C_below HA6.out hb); clear hb))
          go_roundw
          case rel => exact ⟨1, by omega, rfl, HX7, HR7, HA7, HB7⟩
          case measure => simp [intOf]
    · rw [show ((1 : Nat) : Int) = 1 from rfl]
      go_wp2_with fail
      go_loop [9, 10] (fun y x => ∃ (i : Nat) (b : Int), i ≤ m ∧ x = .int .i64 i ∧ y = .int .i64 b ∧ Aside0 (b = bestL 1 (a.take i))) (fun _ x => m - (intOf x).toNat)
      case atStart => exact ⟨0, 0, by omega, rfl, rfl, ⟨rfl⟩⟩
      case round =>
        obtain ⟨i, b, hi, rfl, rfl, HE⟩ := hrel
        by_cases hlt : i < m
        · have hs := HS1.out i hlt
          obtain ⟨ad, rfl, k0, k1, k2⟩ := at3_of HA.out i hlt z
          obtain ⟨t, ht⟩ : ∃ t, t = a.getD i z := ⟨_, rfl⟩
          rw [← ht] at k0 k1 k2
          rw [← HE.out, ← ht] at hs
          have hi2 : (0 : Int) ≤ (i : Int) := by omega
          have hi3 : (i : Int) < (m : Int) := by omega
          have hi4 : (i : Int) ≤ (n : Int) := by omega
          rcases (show ((b == 0) = true ∧ (if b = 0 ∨ t.at 1 < b then t.at 1 else b) = t.p) ∨ ((b == 0) = false ∧ t.p < b ∧ (if b = 0 ∨ t.at 1 < b then t.at 1 else b) = t.p) ∨ ((b == 0) = false ∧ decide (t.p < b) = false ∧ (if b = 0 ∨ t.at 1 < b then t.at 1 else b) = b) from best_case (t.at 1) b) with ⟨c1, c3⟩ | ⟨c1, c2, c3⟩ | ⟨c1, c2, c3⟩
          all_goals
            rw [c3] at hs
            have HS := Aside0.mk hs
            clear hs c3 ht HS0 HS1 HS2 HV0 HV1 HV2
            go_wp2_with fail
            go_round
            case rel => exact ⟨i + 1, _, by omega, by go_num, rfl, ⟨HS.out.symm⟩⟩
            case measure => simp [intOf]; omega
        · have him : i = m := by omega
          subst him
          have hbe : b = b1 := HE.out.trans HV1.out
          subst hbe
          clear HE hlt
          go_wp2_with (first
            | (go_at_call 53; (with_reducible refine (C1a.out _ _ HR.out).mono ?_); rintro e w5 ⟨rfl, hb⟩; have HB5 := Aside0.mk (below_step HB.out hb); have HX5 := Aside0.mk (HX.out.below hb); have HR5 := Aside0.mk (HR.out.below hb); have HA5 := Aside0.mk (Kd.C_below HA.out hb); obtain ⟨y0, y1, y2⟩ := HX5.out; clear hb)
            | (go_at_call 53; (with_reducible refine (C1b.out _ _ HR5.out).mono ?_); rintro e w6 ⟨rfl, hb⟩; have HB6 := Aside0.mk (below_step HB5.out hb); have HX6 := Aside0.mk (HX5.out.below hb); have HR6 := Aside0.mk (HR5.out.below hb); have HA6 := Aside0.mk (Kd.C_below HA5.out hb); obtain ⟨z0, z1, z2⟩ := HX6.out; clear hb)
            | (go_at_call 53; (with_reducible refine (C1c.out _ _ HR6.out).mono ?_); rintro e w7 ⟨rfl, hb⟩; have HB7 := Aside0.mk (below_step HB6.out hb); have HX7 := Aside0.mk (HX6.out.below hb); have HR7 := Aside0.mk (HR6.out.below hb); have HA7 := Aside0.mk (Kd.C_below HA6.out hb); clear hb))
          go_roundw
          case rel => exact ⟨2, by omega, rfl, HX7, HR7, HA7, HB7⟩
          case measure => simp [intOf]
    · rw [show ((2 : Nat) : Int) = 2 from rfl]
      go_wp2_with fail
      go_loop [9, 10] (fun y x => ∃ (i : Nat) (b : Int), i ≤ m ∧ x = .int .i64 i ∧ y = .int .i64 b ∧ Aside0 (b = bestL 2 (a.take i))) (fun _ x => m - (intOf x).toNat)
      case atStart => exact ⟨0, 0, by omega, rfl, rfl, ⟨rfl⟩⟩
      case round =>
        obtain ⟨i, b, hi, rfl, rfl, HE⟩ := hrel
        by_cases hlt : i < m
        · have hs := HS2.out i hlt
          obtain ⟨ad, rfl, k0, k1, k2⟩ := at3_of HA.out i hlt z
          obtain ⟨t, ht⟩ : ∃ t, t = a.getD i z := ⟨_, rfl⟩
          rw [← ht] at k0 k1 k2
          rw [← HE.out, ← ht] at hs
          have hi2 : (0 : Int) ≤ (i : Int) := by omega
          have hi3 : (i : Int) < (m : Int) := by omega
          have hi4 : (i : Int) ≤ (n : Int) := by omega
          rcases (show ((b == 0) = true ∧ (if b = 0 ∨ t.at 2 < b then t.at 2 else b) = t.o) ∨ ((b == 0) = false ∧ t.o < b ∧ (if b = 0 ∨ t.at 2 < b then t.at 2 else b) = t.o) ∨ ((b == 0) = false ∧ decide (t.o < b) = false ∧ (if b = 0 ∨ t.at 2 < b then t.at 2 else b) = b) from best_case (t.at 2) b) with ⟨c1, c3⟩ | ⟨c1, c2, c3⟩ | ⟨c1, c2, c3⟩
          all_goals
            rw [c3] at hs
            have HS := Aside0.mk hs
            clear hs c3 ht HS0 HS1 HS2 HV0 HV1 HV2
            go_wp2_with fail
            go_round
            case rel => exact ⟨i + 1, _, by omega, by go_num, rfl, ⟨HS.out.symm⟩⟩
            case measure => simp [intOf]; omega
        · have him : i = m := by omega
          subst him
          have hbe : b = b2 := HE.out.trans HV2.out
          subst hbe
          clear HE hlt
          go_wp2_with (first
            | (go_at_call 53; (with_reducible refine (C2a.out _ _ HR.out).mono ?_); rintro e w5 ⟨rfl, hb⟩; have HB5 := Aside0.mk (below_step HB.out hb); have HX5 := Aside0.mk (HX.out.below hb); have HR5 := Aside0.mk (HR.out.below hb); have HA5 := Aside0.mk (Kd.C_below HA.out hb); obtain ⟨y0, y1, y2⟩ := HX5.out; clear hb)
            | (go_at_call 53; (with_reducible refine (C2b.out _ _ HR5.out).mono ?_); rintro e w6 ⟨rfl, hb⟩; have HB6 := Aside0.mk (below_step HB5.out hb); have HX6 := Aside0.mk (HX5.out.below hb); have HR6 := Aside0.mk (HR5.out.below hb); have HA6 := Aside0.mk (Kd.C_below HA5.out hb); obtain ⟨z0, z1, z2⟩ := HX6.out; clear hb)
            | (go_at_call 53; (with_reducible refine (C2c.out _ _ HR6.out).mono ?_); rintro e w7 ⟨rfl, hb⟩; have HB7 := Aside0.mk (below_step HB6.out hb); have HX7 := Aside0.mk (HX6.out.below hb); have HR7 := Aside0.mk (HR6.out.below hb); have HA7 := Aside0.mk (Kd.C_below HA6.out hb); clear hb))
          go_roundw
          case rel => exact ⟨3, by omega, rfl, HX7, HR7, HA7, HB7⟩
          case measure => simp [intOf]
    · rw [show ((3 : Nat) : Int) = 3 from rfl]
      go_wp2_with (first
        | (go_at_call 53; (with_reducible refine (C3.out _ _ HR.out).mono ?_); rintro e w5 ⟨rfl, hb⟩; have HB5 := Aside0.mk (below_step HB.out hb); have HX5 := Aside0.mk (HX.out.below hb); have HR5 := Aside0.mk (HR.out.below hb); obtain ⟨y0, y1, y2⟩ := HX5.out; clear hb)
        | (go_at_call 53; (with_reducible refine (C4.out _ _ HR5.out).mono ?_); rintro e w6 ⟨rfl, hb⟩; have HB6 := Aside0.mk (below_step HB5.out hb); clear hb)
        | (go_at_call 47; (with_reducible refine (CK.out _).mono ?_); rintro e w7 ⟨rfl, hb⟩; have HB7 := Aside0.mk (below_step HB6.out hb); clear hb))
      go_ret
      exact ⟨rfl, HB7.out⟩
theorem cols_law (A : Option Addr) (c : Nat) (l : List Tri) (p : Tri) (w : World) (hr : Kd.C kT w A l.length l) (_hc : l.length ≤ c) (_hw : ∀ t ∈ l, t.wf) (_hp : p.wf) :
    Calls Try.prog 19 #[.slice A l.length c, p.val] w fun e w' => e = .returned (.bool true) ∧ Below w.heap.size w w' := by
  by_cases hl : 60 < l.length
  · exact cols_long A c l p w hl
  · cases hm : mayB l with
    | true => exact cols_yes A c l p w hr (by omega) hm
    | false => exact cols_no A c l p w hr (by omega) hm
end Go.Proofs.Ytdijaobhijmknaa.Rg
