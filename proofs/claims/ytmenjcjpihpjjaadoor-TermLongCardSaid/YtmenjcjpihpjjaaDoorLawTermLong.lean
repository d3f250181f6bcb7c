/- The law TermLong: texts may have so many bytes, and be no wrong ones. -/
import Derived.Test.YtmenjcjpihpjjaaDoorTmT
set_option linter.unusedSimpArgs false
set_option linter.unusedVariables false
namespace Go.Proofs.YtmenjcjpihpjjaaDoor.Tm
open Go Go.RowKit Go.Shelf Go.Proofs.YtmenjcjpihpjjaaDoorW.PrintWords

/-- So many 'x'. -/
def xs (k : Nat) : ByteArray := ⟨(List.replicate k 120).toArray⟩
theorem xs_size (k : Nat) : (xs k).size = k := by
  show ((List.replicate k (120 : UInt8)).toArray).size = k
  simp
theorem xs_next (k : Nat) : xs k ++ (⟨#[120]⟩ : ByteArray) = xs (k + 1) := by
  have := ba_app (List.replicate k 120) [120]
  unfold xs
  rw [List.replicate_succ']
  exact this
def long3 (n : Nat) : Bool := isB ⟨3, xs n, ⟨#[]⟩⟩ == decide (n ≤ 30) && iriB (xs n) == (decide (1 ≤ n) && decide (n ≤ 60)) && isB ⟨2, xs n, ⟨#[]⟩⟩ == (decide (1 ≤ n) && decide (n ≤ 8)) &&
  isB ⟨3, xs n ++ (⟨#[255]⟩ : ByteArray), ⟨#[]⟩⟩ == false && iriB (xs n ++ (⟨#[255]⟩ : ByteArray)) == false
theorem long3_all : ∀ n : Fin 71, long3 n.1 = true := by decide +kernel
theorem long3_at {n : Nat} (h : n ≤ 70) : isB ⟨3, xs n, ⟨#[]⟩⟩ = decide (n ≤ 30) ∧ iriB (xs n) = (decide (1 ≤ n) && decide (n ≤ 60)) ∧ isB ⟨2, xs n, ⟨#[]⟩⟩ = (decide (1 ≤ n) && decide (n ≤ 8)) ∧
    isB ⟨3, xs n ++ (⟨#[255]⟩ : ByteArray), ⟨#[]⟩⟩ = false ∧ iriB (xs n ++ (⟨#[255]⟩ : ByteArray)) = false := by
  have := long3_all ⟨n, by omega⟩
  simp only [long3, Bool.and_eq_true, beq_iff_eq] at this
  obtain ⟨⟨⟨⟨a, b⟩, c⟩, d⟩, e⟩ := this
  exact ⟨a, b, c, d, e⟩
set_option maxRecDepth 100000 in
set_option maxHeartbeats 4000000 in
theorem long_wrong (N : Nat) (hN : N ≤ 70) (w : World) (hT : Tabs w) : Calls Tryd.prog 6 #[.int .i64 N, .bool true] w fun e w' => e = .returned (.bool true) ∧ Below w.heap.size w w' := by
  have g0 : (0 : Int) ≤ (N : Int) := by omega
  have g1 : (N : Int) ≤ 70 := by omega
  have HT0 := Aside0.mk hT
  have CK := Aside0.mk known_any
  have HL := Aside0.mk (long3_at hN)
  clear hT
  go_enter Tryd.func6, Tryd.ntmps6
  go_wp2_with fail
  go_loop [5, 6] (fun x y => ∃ (sb : ByteArray) (k : Nat), x = .string sb ∧ y = .int .i64 k ∧ k ≤ N ∧ sb.size ≤ k ∧ Aside0 (sb = xs k)) (fun _ y => N - (intOf y).toNat)
  case atStart => exact ⟨⟨#[]⟩, 0, rfl, rfl, by omega, by decide, ⟨rfl⟩⟩
  case round =>
    obtain ⟨sb, k, rfl, rfl, hk, hsb, HS⟩ := hrel
    by_cases hlt : k < N
    · have hk3 : (k : Int) < (N : Int) := by omega
      have HN : Aside0 (sb ++ (⟨#[120]⟩ : ByteArray) = xs (k + 1)) := ⟨by rw [HS.out]; exact xs_next k⟩
      have hsz2 : (sb ++ (⟨#[120]⟩ : ByteArray)).size ≤ k + 1 := by rw [HN.out, xs_size]; exact Nat.le_refl _
      go_wp2_with fail
      go_round
      case rel => exact ⟨_, k + 1, rfl, by go_num, by omega, hsz2, HN⟩
      case measure => simp [intOf]; omega
    · obtain rfl : k = N := by omega
      have hsz : (sb ++ (⟨#[255]⟩ : ByteArray)).size ≤ 1000 := by rw [ByteArray.size_append]; show sb.size + 1 ≤ 1000; omega
      obtain ⟨s2, hs2⟩ : ∃ s2, sb ++ (⟨#[255]⟩ : ByteArray) = s2 := ⟨_, rfl⟩
      have C3 : Aside0 (∀ W, Tabs W → Calls Tryd.prog 10 #[.agg #[.int .i64 3, .string s2, .string ⟨#[]⟩]] W fun e w' => e = .returned (.bool false) ∧ Below W.heap.size W w') := ⟨fun W h => by
        have := is_any ⟨3, s2, ⟨#[]⟩⟩ W (by show s2.size ≤ 1000; rw [← hs2]; exact hsz) (by show 0 ≤ 1000; decide) h
        rwa [show isB ⟨3, s2, ⟨#[]⟩⟩ = false by rw [← hs2, HS.out]; exact HL.out.2.2.2.1] at this⟩
      have CI : Aside0 (∀ W, Tabs W → Calls Tryd.prog 15 #[.string s2] W fun e w' => e = .returned (.bool false) ∧ Below W.heap.size W w') := ⟨fun W h => by
        have := iri_any s2 W (by rw [← hs2]; omega) h
        rwa [show iriB s2 = false by rw [← hs2, HS.out]; exact HL.out.2.2.2.2] at this⟩
      go_wp2_with (first
        | (go_at_call 10; (try rw [hs2]); (with_reducible refine (C3.out _ HT0.out).mono ?_); rintro e w1 ⟨rfl, hb⟩; have HB1 := Aside0.mk hb; have HT1 := Aside0.mk (HT0.out.below hb); clear hb)
        | (go_at_call 15; (try rw [hs2]); (with_reducible refine (CI.out _ HT1.out).mono ?_); rintro e w2 ⟨rfl, hb⟩; have HB2 := Aside0.mk (below_then HB1.out HB1.out.size hb); have HT2 := Aside0.mk (HT1.out.below hb); clear hb)
        | (go_at_call 11; (with_reducible refine (CK.out _ HT2.out).mono ?_); rintro e w3 ⟨rfl, hb⟩; have HB3 := Aside0.mk (below_then HB2.out HB2.out.size hb); clear hb))
      go_ret
      exact ⟨rfl, HB3.out⟩
set_option maxRecDepth 100000 in
set_option maxHeartbeats 8000000 in
theorem long_right (N : Nat) (hN : N ≤ 70) (w : World) (hT : Tabs w) : Calls Tryd.prog 6 #[.int .i64 N, .bool false] w fun e w' => e = .returned (.bool true) ∧ Below w.heap.size w w' := by
  have g0 : (0 : Int) ≤ (N : Int) := by omega
  have g1 : (N : Int) ≤ 70 := by omega
  have HT0 := Aside0.mk hT
  have CK := Aside0.mk known_any
  have HL := Aside0.mk (long3_at hN)
  clear hT
  go_enter Tryd.func6, Tryd.ntmps6
  go_wp2_with fail
  go_loop [5, 6] (fun x y => ∃ (sb : ByteArray) (k : Nat), x = .string sb ∧ y = .int .i64 k ∧ k ≤ N ∧ sb.size ≤ k ∧ Aside0 (sb = xs k)) (fun _ y => N - (intOf y).toNat)
  case atStart => exact ⟨⟨#[]⟩, 0, rfl, rfl, by omega, by decide, ⟨rfl⟩⟩
  case round =>
    obtain ⟨sb, k, rfl, rfl, hk, hsb, HS⟩ := hrel
    by_cases hlt : k < N
    · have hk3 : (k : Int) < (N : Int) := by omega
      have HN : Aside0 (sb ++ (⟨#[120]⟩ : ByteArray) = xs (k + 1)) := ⟨by rw [HS.out]; exact xs_next k⟩
      have hsz2 : (sb ++ (⟨#[120]⟩ : ByteArray)).size ≤ k + 1 := by rw [HN.out, xs_size]; exact Nat.le_refl _
      go_wp2_with fail
      go_round
      case rel => exact ⟨_, k + 1, rfl, by go_num, by omega, hsz2, HN⟩
      case measure => simp [intOf]; omega
    · obtain rfl : k = N := by omega
      obtain ⟨E3, EI, E2, _, _⟩ := HL.out
      rw [← HS.out] at E3 EI E2
      have C3 := Aside0.mk (fun (W : World) (h : Tabs W) => is_any ⟨3, sb, ⟨#[]⟩⟩ W (by show sb.size ≤ 1000; omega) (by show 0 ≤ 1000; decide) h)
      have C2 := Aside0.mk (fun (W : World) (h : Tabs W) => is_any ⟨2, sb, ⟨#[]⟩⟩ W (by show sb.size ≤ 1000; omega) (by show 0 ≤ 1000; decide) h)
      have CI := Aside0.mk (fun (W : World) (h : Tabs W) => iri_any sb W (by omega) h)
      rw [E3] at C3; rw [E2] at C2; rw [EI] at CI
      unfold Trm.val at C3 C2
      clear E3 EI E2
      rcases (show k = 0 ∨ (1 ≤ k ∧ k ≤ 8) ∨ (8 < k ∧ k ≤ 30) ∨ (30 < k ∧ k ≤ 60) ∨ 60 < k by omega) with h | ⟨h, h'⟩ | ⟨h, h'⟩ | ⟨h, h'⟩ | h
      all_goals
        first
          | (have q1 : (1 : Int) ≤ (k : Int) := by omega)
          | (have q1 : (k : Int) < 1 := by omega)
        first
          | (have q8 : (8 : Int) < (k : Int) := by omega)
          | (have q8 : (k : Int) ≤ 8 := by omega)
        first
          | (have q30 : (30 : Int) < (k : Int) := by omega)
          | (have q30 : (k : Int) ≤ 30 := by omega)
        first
          | (have q60 : (60 : Int) < (k : Int) := by omega)
          | (have q60 : (k : Int) ≤ 60 := by omega)
        first
          | rw [decide_eq_true (show k ≤ 30 by omega)] at C3
          | rw [decide_eq_false (show ¬ k ≤ 30 by omega)] at C3
        first
          | rw [decide_eq_true (show 1 ≤ k by omega)] at C2 CI
          | rw [decide_eq_false (show ¬ 1 ≤ k by omega)] at C2 CI
        first
          | rw [decide_eq_true (show k ≤ 8 by omega)] at C2
          | rw [decide_eq_false (show ¬ k ≤ 8 by omega)] at C2
        first
          | rw [decide_eq_true (show k ≤ 60 by omega)] at CI
          | rw [decide_eq_false (show ¬ k ≤ 60 by omega)] at CI
        simp only [Bool.and_self, Bool.and_true, Bool.true_and, Bool.and_false, Bool.false_and] at C2 CI
        clear h
        go_wp2_with (first
          | (go_at_call 10; first
              | ((with_reducible refine (C3.out _ HT0.out).mono ?_); rintro e w1 ⟨rfl, hb⟩; have HB1 := Aside0.mk hb; have HT1 := Aside0.mk (HT0.out.below hb); clear hb)
              | ((with_reducible refine (C2.out _ HT2.out).mono ?_); rintro e w3 ⟨rfl, hb⟩; have HB3 := Aside0.mk (below_then HB2.out HB2.out.size hb); have HT3 := Aside0.mk (HT2.out.below hb); clear hb))
          | (go_at_call 15; (with_reducible refine (CI.out _ HT1.out).mono ?_); rintro e w2 ⟨rfl, hb⟩; have HB2 := Aside0.mk (below_then HB1.out HB1.out.size hb); have HT2 := Aside0.mk (HT1.out.below hb); clear hb)
          | (go_at_call 11; (with_reducible refine (CK.out _ HT3.out).mono ?_); rintro e w4 ⟨rfl, hb⟩; have HB4 := Aside0.mk (below_then HB3.out HB3.out.size hb); clear hb))
        go_ret
        exact ⟨ret_b (by first | rfl | (simp; omega)), HB4.out⟩
set_option maxRecDepth 100000 in
theorem long_law (n : Int) (b : Bool) (w : World) (_h : (Lit.int .i64 n).wf = true) (hT : Tabs w) : Calls Tryd.prog 6 #[.int .i64 n, .bool b] w fun e w' => e = .returned (.bool true) ∧ Below w.heap.size w w' := by
  by_cases h0 : n < 0
  · go_enter Tryd.func6, Tryd.ntmps6
    go_wp2_with fail
    go_ret
    exact ⟨rfl, Below.refl _ _⟩
  · by_cases h1 : 70 < n
    · have g0 : 0 ≤ n := by omega
      clear h0
      go_enter Tryd.func6, Tryd.ntmps6
      go_wp2_with fail
      go_ret
      exact ⟨rfl, Below.refl _ _⟩
    · obtain ⟨N, rfl⟩ : ∃ N : Nat, n = (N : Int) := ⟨n.toNat, by omega⟩
      cases b
      · exact long_right N (by omega) w hT
      · exact long_wrong N (by omega) w hT
end Go.Proofs.YtmenjcjpihpjjaaDoor.Tm
