/- The law TermNumbers: just literals of number types have a number: that of their text. -/
import Derived.Test.YtmenjcjpihpjjaaDoorTmP
set_option linter.unusedSimpArgs false
set_option linter.unusedVariables false
namespace Go.Proofs.YtmenjcjpihpjjaaDoor.Tm
open Go Go.RowKit Go.Shelf Go.Proofs.YtmenjcjpihpjjaaDoorW.PrintWords

set_option maxRecDepth 100000 in
set_option maxHeartbeats 4000000 in
theorem numbers_0 (s : ByteArray) (kd : Int) (w : World) (h30 : s.size ≤ 30) (hok : isB ⟨3, s, ⟨#[]⟩⟩ = true) (hT : Tabs w) : Calls Tryd.prog 9 #[.string s, .int .i64 kd, .int .i64 0] w fun e w' => e = .returned (.bool true) ∧ Below w.heap.size w w' := by
  have hs : (s.size : Int) ≤ 30 := by omega
  have CI : Aside0 (∀ W, Tabs W → Calls Tryd.prog 14 #[.agg #[.int .i64 3, .string s, .string ⟨#[]⟩]] W fun e w' => e = .returned (.bool true) ∧ Below W.heap.size W w') := ⟨fun W h => by
    have := refIs_any ⟨3, s, ⟨#[]⟩⟩ W (by show s.size ≤ 1000; omega) (by show 0 ≤ 1000; decide) h
    rwa [hok] at this⟩
  have CK := Aside0.mk known_any
  obtain ⟨v, hv⟩ : ∃ v, v = Fb.parseL s.data.toList := ⟨_, rfl⟩
  have hl : v.getD 0 < 18446744073709551616 := by
    cases hv2 : v with
    | none => show 0 < _; omega
    | some r => exact Fb.parseL_lt (l := s.data.toList) (by rw [← hv, hv2]; rfl)
  have P1 := fun W => Fb.parse_any s (by omega) W
  have P2 := fun W => Fb.refParse_any s (by omega) W
  rw [← hv] at P1 P2
  have CS := Aside0.mk (Fb.same_any (v.getD 0) (v.getD 0) hl hl)
  rw [Fb.ordK_self] at CS
  unfold Fb.PlainP at P1 P2
  obtain ⟨a, ha⟩ : ∃ a, a = v.getD 0 := ⟨_, rfl⟩
  obtain ⟨b, hb⟩ : ∃ b, b = v.isSome := ⟨_, rfl⟩
  rw [← ha] at CS P1 P2
  rw [← hb] at P1 P2
  have C2 := Aside0.mk P2
  have CN : Aside0 (∀ W, Calls Tryd.prog 18 #[.agg #[.int .i64 5, .string s, .string (⟨#[104, 116, 116, 112, 58, 47, 47, 119, 119, 119, 46, 119, 51, 46, 111, 114, 103, 47, 50, 48, 48, 49, 47, 88, 77, 76, 83, 99, 104, 101, 109, 97, 35, 100, 111, 117, 98, 108, 101]⟩ : ByteArray)]] W fun e w' => e = .returned (.tuple #[.float .f64 a, .bool b]) ∧ Below W.heap.size W w') := ⟨fun W => num_0 s W a b P1⟩
  have CU : Aside0 (∀ W, Calls Tryd.prog 18 #[.agg #[.int .i64 3, .string s, .string ⟨#[]⟩]] W fun e w' => e = .returned (.tuple #[.float .f64 0, .bool false]) ∧ Below W.heap.size W w') := ⟨fun W => num_p s W⟩
  have q0 : (FloatKind.f64.format.order 0 0 == some Ordering.eq) = true := by decide +kernel
  have HT0 := Aside0.mk hT
  clear hv hl ha hb P1 P2 hT hok h30
  cases b
  all_goals
    go_enter Tryd.func9, Tryd.ntmps9
    go_upto_region 3 with (go_at_call 14; (with_reducible refine (CI.out _ HT0.out).mono ?_); rintro e w1 ⟨rfl, hb⟩; have HB1 := Aside0.mk hb; have HT1 := Aside0.mk (HT0.out.below hb); clear hb)
    obtain ⟨wa, hwa, HA⟩ : ∃ wa, wa = w1.alloc (.cells #[.string (⟨#[104, 116, 116, 112, 58, 47, 47, 119, 119, 119, 46, 119, 51, 46, 111, 114, 103, 47, 50, 48, 48, 49, 47, 88, 77, 76, 83, 99, 104, 101, 109, 97, 35, 100, 111, 117, 98, 108, 101]⟩ : ByteArray), .string (⟨#[104, 116, 116, 112, 58, 47, 47, 119, 119, 119, 46, 119, 51, 46, 111, 114, 103, 47, 50, 48, 48, 49, 47, 88, 77, 76, 83, 99, 104, 101, 109, 97, 35, 100, 101, 99, 105, 109, 97, 108]⟩ : ByteArray), .string (⟨#[104, 116, 116, 112, 58, 47, 47, 119, 119, 119, 46, 119, 51, 46, 111, 114, 103, 47, 50, 48, 48, 49, 47, 88, 77, 76, 83, 99, 104, 101, 109, 97, 35, 105, 110, 116, 101, 103, 101, 114]⟩ : ByteArray), .string (⟨#[104, 116, 116, 112, 58, 47, 47, 119, 119, 119, 46, 119, 51, 46, 111, 114, 103, 47, 50, 48, 48, 49, 47, 88, 77, 76, 83, 99, 104, 101, 109, 97, 35, 115, 116, 114, 105, 110, 103]⟩ : ByteArray), .string (⟨#[120, 58, 121]⟩ : ByteArray)] 9) ∧ Aside0 (Below w1.heap.size w1 wa) := ⟨_, rfl, ⟨below_alloc (Below.refl _ _) _⟩⟩
    obtain ⟨wq, hwq, HQ⟩ := boxT wa 5 s (⟨#[104, 116, 116, 112, 58, 47, 47, 119, 119, 119, 46, 119, 51, 46, 111, 114, 103, 47, 50, 48, 48, 49, 47, 88, 77, 76, 83, 99, 104, 101, 109, 97, 35, 100, 111, 117, 98, 108, 101]⟩ : ByteArray)
    have hsz : wa.heap.size = w1.heap.size + 1 := by rw [hwa]; simp
    have HXq : Aside0 (BoxedT wq (w1.heap.size + 1) 5 s (⟨#[104, 116, 116, 112, 58, 47, 47, 119, 119, 119, 46, 119, 51, 46, 111, 114, 103, 47, 50, 48, 48, 49, 47, 88, 77, 76, 83, 99, 104, 101, 109, 97, 35, 100, 111, 117, 98, 108, 101]⟩ : ByteArray)) := ⟨by rw [hwq, ← hsz]; exact BoxedT.new wa _ _ _ _⟩
    have HBq := Aside0.mk (below_then (below_then HB1.out HB1.out.size HA.out) (Nat.le_trans HB1.out.size HA.out.size) HQ.out)
    have HTq := Aside0.mk ((HT1.out.below HA.out).below HQ.out)
    go_upto_region 4 with (fail)
    rw [← hwa, ← hwq]
    obtain ⟨x0, x1, x2⟩ := HXq.out
    clear hwa hwq hsz
    go_wp2_with (first
      | (go_at_call 18; first
        | ((with_reducible refine (CN.out _).mono ?_); rintro e w2 ⟨rfl, hb⟩; have HB2 := Aside0.mk (below_then HBq.out HBq.out.size hb); have HT2 := Aside0.mk (HTq.out.below hb); clear hb)
        | ((with_reducible refine (CU.out _).mono ?_); rintro e w4 ⟨rfl, hb⟩; have HB4 := Aside0.mk (below_then (below_alloc HB3.out _) (below_alloc HB3.out _).size hb); have HT4 := Aside0.mk ((HT3.out.below (below_alloc (Below.refl _ _) _)).below hb); clear hb))
      | (go_at_call 19; (with_reducible refine (C2.out _).mono ?_); rintro e w3 ⟨rfl, hb⟩; have HB3 := Aside0.mk (below_then HB2.out HB2.out.size hb); have HT3 := Aside0.mk (HT2.out.below hb); clear hb)
      | (go_at_call 20; (with_reducible refine (CS.out _).mono ?_); rintro e w5 ⟨rfl, rfl⟩)
      | (go_at_call 11; (with_reducible refine (CK.out _ HT4.out).mono ?_); rintro e w6 ⟨rfl, hb⟩; have HB6 := Aside0.mk (below_then HB4.out HB4.out.size hb); clear hb))
    go_ret
    exact ⟨rfl, HB6.out⟩
set_option maxRecDepth 100000 in
set_option maxHeartbeats 4000000 in
theorem numbers_1 (s : ByteArray) (kd : Int) (w : World) (h30 : s.size ≤ 30) (hok : isB ⟨3, s, ⟨#[]⟩⟩ = true) (hT : Tabs w) : Calls Tryd.prog 9 #[.string s, .int .i64 kd, .int .i64 1] w fun e w' => e = .returned (.bool true) ∧ Below w.heap.size w w' := by
  have hs : (s.size : Int) ≤ 30 := by omega
  have CI : Aside0 (∀ W, Tabs W → Calls Tryd.prog 14 #[.agg #[.int .i64 3, .string s, .string ⟨#[]⟩]] W fun e w' => e = .returned (.bool true) ∧ Below W.heap.size W w') := ⟨fun W h => by
    have := refIs_any ⟨3, s, ⟨#[]⟩⟩ W (by show s.size ≤ 1000; omega) (by show 0 ≤ 1000; decide) h
    rwa [hok] at this⟩
  have CK := Aside0.mk known_any
  obtain ⟨v, hv⟩ : ∃ v, v = Fb.parseL s.data.toList := ⟨_, rfl⟩
  have hl : v.getD 0 < 18446744073709551616 := by
    cases hv2 : v with
    | none => show 0 < _; omega
    | some r => exact Fb.parseL_lt (l := s.data.toList) (by rw [← hv, hv2]; rfl)
  have P1 := fun W => Fb.parse_any s (by omega) W
  have P2 := fun W => Fb.refParse_any s (by omega) W
  rw [← hv] at P1 P2
  have CS := Aside0.mk (Fb.same_any (v.getD 0) (v.getD 0) hl hl)
  rw [Fb.ordK_self] at CS
  unfold Fb.PlainP at P1 P2
  obtain ⟨a, ha⟩ : ∃ a, a = v.getD 0 := ⟨_, rfl⟩
  obtain ⟨b, hb⟩ : ∃ b, b = v.isSome := ⟨_, rfl⟩
  rw [← ha] at CS P1 P2
  rw [← hb] at P1 P2
  have C2 := Aside0.mk P2
  have CN : Aside0 (∀ W, Calls Tryd.prog 18 #[.agg #[.int .i64 5, .string s, .string (⟨#[104, 116, 116, 112, 58, 47, 47, 119, 119, 119, 46, 119, 51, 46, 111, 114, 103, 47, 50, 48, 48, 49, 47, 88, 77, 76, 83, 99, 104, 101, 109, 97, 35, 100, 101, 99, 105, 109, 97, 108]⟩ : ByteArray)]] W fun e w' => e = .returned (.tuple #[.float .f64 a, .bool b]) ∧ Below W.heap.size W w') := ⟨fun W => num_1 s W a b P1⟩
  have CU : Aside0 (∀ W, Calls Tryd.prog 18 #[.agg #[.int .i64 3, .string s, .string ⟨#[]⟩]] W fun e w' => e = .returned (.tuple #[.float .f64 0, .bool false]) ∧ Below W.heap.size W w') := ⟨fun W => num_p s W⟩
  have q0 : (FloatKind.f64.format.order 0 0 == some Ordering.eq) = true := by decide +kernel
  have HT0 := Aside0.mk hT
  clear hv hl ha hb P1 P2 hT hok h30
  cases b
  all_goals
    go_enter Tryd.func9, Tryd.ntmps9
    go_upto_region 3 with (go_at_call 14; (with_reducible refine (CI.out _ HT0.out).mono ?_); rintro e w1 ⟨rfl, hb⟩; have HB1 := Aside0.mk hb; have HT1 := Aside0.mk (HT0.out.below hb); clear hb)
    obtain ⟨wa, hwa, HA⟩ : ∃ wa, wa = w1.alloc (.cells #[.string (⟨#[104, 116, 116, 112, 58, 47, 47, 119, 119, 119, 46, 119, 51, 46, 111, 114, 103, 47, 50, 48, 48, 49, 47, 88, 77, 76, 83, 99, 104, 101, 109, 97, 35, 100, 111, 117, 98, 108, 101]⟩ : ByteArray), .string (⟨#[104, 116, 116, 112, 58, 47, 47, 119, 119, 119, 46, 119, 51, 46, 111, 114, 103, 47, 50, 48, 48, 49, 47, 88, 77, 76, 83, 99, 104, 101, 109, 97, 35, 100, 101, 99, 105, 109, 97, 108]⟩ : ByteArray), .string (⟨#[104, 116, 116, 112, 58, 47, 47, 119, 119, 119, 46, 119, 51, 46, 111, 114, 103, 47, 50, 48, 48, 49, 47, 88, 77, 76, 83, 99, 104, 101, 109, 97, 35, 105, 110, 116, 101, 103, 101, 114]⟩ : ByteArray), .string (⟨#[104, 116, 116, 112, 58, 47, 47, 119, 119, 119, 46, 119, 51, 46, 111, 114, 103, 47, 50, 48, 48, 49, 47, 88, 77, 76, 83, 99, 104, 101, 109, 97, 35, 115, 116, 114, 105, 110, 103]⟩ : ByteArray), .string (⟨#[120, 58, 121]⟩ : ByteArray)] 9) ∧ Aside0 (Below w1.heap.size w1 wa) := ⟨_, rfl, ⟨below_alloc (Below.refl _ _) _⟩⟩
    obtain ⟨wq, hwq, HQ⟩ := boxT wa 5 s (⟨#[104, 116, 116, 112, 58, 47, 47, 119, 119, 119, 46, 119, 51, 46, 111, 114, 103, 47, 50, 48, 48, 49, 47, 88, 77, 76, 83, 99, 104, 101, 109, 97, 35, 100, 101, 99, 105, 109, 97, 108]⟩ : ByteArray)
    have hsz : wa.heap.size = w1.heap.size + 1 := by rw [hwa]; simp
    have HXq : Aside0 (BoxedT wq (w1.heap.size + 1) 5 s (⟨#[104, 116, 116, 112, 58, 47, 47, 119, 119, 119, 46, 119, 51, 46, 111, 114, 103, 47, 50, 48, 48, 49, 47, 88, 77, 76, 83, 99, 104, 101, 109, 97, 35, 100, 101, 99, 105, 109, 97, 108]⟩ : ByteArray)) := ⟨by rw [hwq, ← hsz]; exact BoxedT.new wa _ _ _ _⟩
    have HBq := Aside0.mk (below_then (below_then HB1.out HB1.out.size HA.out) (Nat.le_trans HB1.out.size HA.out.size) HQ.out)
    have HTq := Aside0.mk ((HT1.out.below HA.out).below HQ.out)
    go_upto_region 4 with (fail)
    rw [← hwa, ← hwq]
    obtain ⟨x0, x1, x2⟩ := HXq.out
    clear hwa hwq hsz
    go_wp2_with (first
      | (go_at_call 18; first
        | ((with_reducible refine (CN.out _).mono ?_); rintro e w2 ⟨rfl, hb⟩; have HB2 := Aside0.mk (below_then HBq.out HBq.out.size hb); have HT2 := Aside0.mk (HTq.out.below hb); clear hb)
        | ((with_reducible refine (CU.out _).mono ?_); rintro e w4 ⟨rfl, hb⟩; have HB4 := Aside0.mk (below_then (below_alloc HB3.out _) (below_alloc HB3.out _).size hb); have HT4 := Aside0.mk ((HT3.out.below (below_alloc (Below.refl _ _) _)).below hb); clear hb))
      | (go_at_call 19; (with_reducible refine (C2.out _).mono ?_); rintro e w3 ⟨rfl, hb⟩; have HB3 := Aside0.mk (below_then HB2.out HB2.out.size hb); have HT3 := Aside0.mk (HT2.out.below hb); clear hb)
      | (go_at_call 20; (with_reducible refine (CS.out _).mono ?_); rintro e w5 ⟨rfl, rfl⟩)
      | (go_at_call 11; (with_reducible refine (CK.out _ HT4.out).mono ?_); rintro e w6 ⟨rfl, hb⟩; have HB6 := Aside0.mk (below_then HB4.out HB4.out.size hb); clear hb))
    go_ret
    exact ⟨rfl, HB6.out⟩
set_option maxRecDepth 100000 in
set_option maxHeartbeats 4000000 in
theorem numbers_2 (s : ByteArray) (kd : Int) (w : World) (h30 : s.size ≤ 30) (hok : isB ⟨3, s, ⟨#[]⟩⟩ = true) (hT : Tabs w) : Calls Tryd.prog 9 #[.string s, .int .i64 kd, .int .i64 2] w fun e w' => e = .returned (.bool true) ∧ Below w.heap.size w w' := by
  have hs : (s.size : Int) ≤ 30 := by omega
  have CI : Aside0 (∀ W, Tabs W → Calls Tryd.prog 14 #[.agg #[.int .i64 3, .string s, .string ⟨#[]⟩]] W fun e w' => e = .returned (.bool true) ∧ Below W.heap.size W w') := ⟨fun W h => by
    have := refIs_any ⟨3, s, ⟨#[]⟩⟩ W (by show s.size ≤ 1000; omega) (by show 0 ≤ 1000; decide) h
    rwa [hok] at this⟩
  have CK := Aside0.mk known_any
  obtain ⟨v, hv⟩ : ∃ v, v = Fb.parseL s.data.toList := ⟨_, rfl⟩
  have hl : v.getD 0 < 18446744073709551616 := by
    cases hv2 : v with
    | none => show 0 < _; omega
    | some r => exact Fb.parseL_lt (l := s.data.toList) (by rw [← hv, hv2]; rfl)
  have P1 := fun W => Fb.parse_any s (by omega) W
  have P2 := fun W => Fb.refParse_any s (by omega) W
  rw [← hv] at P1 P2
  have CS := Aside0.mk (Fb.same_any (v.getD 0) (v.getD 0) hl hl)
  rw [Fb.ordK_self] at CS
  unfold Fb.PlainP at P1 P2
  obtain ⟨a, ha⟩ : ∃ a, a = v.getD 0 := ⟨_, rfl⟩
  obtain ⟨b, hb⟩ : ∃ b, b = v.isSome := ⟨_, rfl⟩
  rw [← ha] at CS P1 P2
  rw [← hb] at P1 P2
  have C2 := Aside0.mk P2
  have CN : Aside0 (∀ W, Calls Tryd.prog 18 #[.agg #[.int .i64 5, .string s, .string (⟨#[104, 116, 116, 112, 58, 47, 47, 119, 119, 119, 46, 119, 51, 46, 111, 114, 103, 47, 50, 48, 48, 49, 47, 88, 77, 76, 83, 99, 104, 101, 109, 97, 35, 105, 110, 116, 101, 103, 101, 114]⟩ : ByteArray)]] W fun e w' => e = .returned (.tuple #[.float .f64 a, .bool b]) ∧ Below W.heap.size W w') := ⟨fun W => num_2 s W a b P1⟩
  have CU : Aside0 (∀ W, Calls Tryd.prog 18 #[.agg #[.int .i64 3, .string s, .string ⟨#[]⟩]] W fun e w' => e = .returned (.tuple #[.float .f64 0, .bool false]) ∧ Below W.heap.size W w') := ⟨fun W => num_p s W⟩
  have q0 : (FloatKind.f64.format.order 0 0 == some Ordering.eq) = true := by decide +kernel
  have HT0 := Aside0.mk hT
  clear hv hl ha hb P1 P2 hT hok h30
  cases b
  all_goals
    go_enter Tryd.func9, Tryd.ntmps9
    go_upto_region 3 with (go_at_call 14; (with_reducible refine (CI.out _ HT0.out).mono ?_); rintro e w1 ⟨rfl, hb⟩; have HB1 := Aside0.mk hb; have HT1 := Aside0.mk (HT0.out.below hb); clear hb)
    obtain ⟨wa, hwa, HA⟩ : ∃ wa, wa = w1.alloc (.cells #[.string (⟨#[104, 116, 116, 112, 58, 47, 47, 119, 119, 119, 46, 119, 51, 46, 111, 114, 103, 47, 50, 48, 48, 49, 47, 88, 77, 76, 83, 99, 104, 101, 109, 97, 35, 100, 111, 117, 98, 108, 101]⟩ : ByteArray), .string (⟨#[104, 116, 116, 112, 58, 47, 47, 119, 119, 119, 46, 119, 51, 46, 111, 114, 103, 47, 50, 48, 48, 49, 47, 88, 77, 76, 83, 99, 104, 101, 109, 97, 35, 100, 101, 99, 105, 109, 97, 108]⟩ : ByteArray), .string (⟨#[104, 116, 116, 112, 58, 47, 47, 119, 119, 119, 46, 119, 51, 46, 111, 114, 103, 47, 50, 48, 48, 49, 47, 88, 77, 76, 83, 99, 104, 101, 109, 97, 35, 105, 110, 116, 101, 103, 101, 114]⟩ : ByteArray), .string (⟨#[104, 116, 116, 112, 58, 47, 47, 119, 119, 119, 46, 119, 51, 46, 111, 114, 103, 47, 50, 48, 48, 49, 47, 88, 77, 76, 83, 99, 104, 101, 109, 97, 35, 115, 116, 114, 105, 110, 103]⟩ : ByteArray), .string (⟨#[120, 58, 121]⟩ : ByteArray)] 9) ∧ Aside0 (Below w1.heap.size w1 wa) := ⟨_, rfl, ⟨below_alloc (Below.refl _ _) _⟩⟩
    obtain ⟨wq, hwq, HQ⟩ := boxT wa 5 s (⟨#[104, 116, 116, 112, 58, 47, 47, 119, 119, 119, 46, 119, 51, 46, 111, 114, 103, 47, 50, 48, 48, 49, 47, 88, 77, 76, 83, 99, 104, 101, 109, 97, 35, 105, 110, 116, 101, 103, 101, 114]⟩ : ByteArray)
    have hsz : wa.heap.size = w1.heap.size + 1 := by rw [hwa]; simp
    have HXq : Aside0 (BoxedT wq (w1.heap.size + 1) 5 s (⟨#[104, 116, 116, 112, 58, 47, 47, 119, 119, 119, 46, 119, 51, 46, 111, 114, 103, 47, 50, 48, 48, 49, 47, 88, 77, 76, 83, 99, 104, 101, 109, 97, 35, 105, 110, 116, 101, 103, 101, 114]⟩ : ByteArray)) := ⟨by rw [hwq, ← hsz]; exact BoxedT.new wa _ _ _ _⟩
    have HBq := Aside0.mk (below_then (below_then HB1.out HB1.out.size HA.out) (Nat.le_trans HB1.out.size HA.out.size) HQ.out)
    have HTq := Aside0.mk ((HT1.out.below HA.out).below HQ.out)
    go_upto_region 4 with (fail)
    rw [← hwa, ← hwq]
    obtain ⟨x0, x1, x2⟩ := HXq.out
    clear hwa hwq hsz
    go_wp2_with (first
      | (go_at_call 18; first
        | ((with_reducible refine (CN.out _).mono ?_); rintro e w2 ⟨rfl, hb⟩; have HB2 := Aside0.mk (below_then HBq.out HBq.out.size hb); have HT2 := Aside0.mk (HTq.out.below hb); clear hb)
        | ((with_reducible refine (CU.out _).mono ?_); rintro e w4 ⟨rfl, hb⟩; have HB4 := Aside0.mk (below_then (below_alloc HB3.out _) (below_alloc HB3.out _).size hb); have HT4 := Aside0.mk ((HT3.out.below (below_alloc (Below.refl _ _) _)).below hb); clear hb))
      | (go_at_call 19; (with_reducible refine (C2.out _).mono ?_); rintro e w3 ⟨rfl, hb⟩; have HB3 := Aside0.mk (below_then HB2.out HB2.out.size hb); have HT3 := Aside0.mk (HT2.out.below hb); clear hb)
      | (go_at_call 20; (with_reducible refine (CS.out _).mono ?_); rintro e w5 ⟨rfl, rfl⟩)
      | (go_at_call 11; (with_reducible refine (CK.out _ HT4.out).mono ?_); rintro e w6 ⟨rfl, hb⟩; have HB6 := Aside0.mk (below_then HB4.out HB4.out.size hb); clear hb))
    go_ret
    exact ⟨rfl, HB6.out⟩
set_option maxRecDepth 100000 in
set_option maxHeartbeats 4000000 in
theorem numbers_3 (s : ByteArray) (kd : Int) (w : World) (h30 : s.size ≤ 30) (hok : isB ⟨3, s, ⟨#[]⟩⟩ = true) (hT : Tabs w) : Calls Tryd.prog 9 #[.string s, .int .i64 kd, .int .i64 3] w fun e w' => e = .returned (.bool true) ∧ Below w.heap.size w w' := by
  have hs : (s.size : Int) ≤ 30 := by omega
  have CI : Aside0 (∀ W, Tabs W → Calls Tryd.prog 14 #[.agg #[.int .i64 3, .string s, .string ⟨#[]⟩]] W fun e w' => e = .returned (.bool true) ∧ Below W.heap.size W w') := ⟨fun W h => by
    have := refIs_any ⟨3, s, ⟨#[]⟩⟩ W (by show s.size ≤ 1000; omega) (by show 0 ≤ 1000; decide) h
    rwa [hok] at this⟩
  have CK := Aside0.mk known_any
  obtain ⟨v, hv⟩ : ∃ v, v = Fb.parseL s.data.toList := ⟨_, rfl⟩
  have hl : v.getD 0 < 18446744073709551616 := by
    cases hv2 : v with
    | none => show 0 < _; omega
    | some r => exact Fb.parseL_lt (l := s.data.toList) (by rw [← hv, hv2]; rfl)
  have P1 := fun W => Fb.parse_any s (by omega) W
  have P2 := fun W => Fb.refParse_any s (by omega) W
  rw [← hv] at P1 P2
  have CS := Aside0.mk (Fb.same_any (v.getD 0) (v.getD 0) hl hl)
  rw [Fb.ordK_self] at CS
  unfold Fb.PlainP at P1 P2
  obtain ⟨a, ha⟩ : ∃ a, a = v.getD 0 := ⟨_, rfl⟩
  obtain ⟨b, hb⟩ : ∃ b, b = v.isSome := ⟨_, rfl⟩
  rw [← ha] at CS P1 P2
  rw [← hb] at P1 P2
  have C2 := Aside0.mk P2
  have CN : Aside0 (∀ W, Calls Tryd.prog 18 #[.agg #[.int .i64 5, .string s, .string (⟨#[104, 116, 116, 112, 58, 47, 47, 119, 119, 119, 46, 119, 51, 46, 111, 114, 103, 47, 50, 48, 48, 49, 47, 88, 77, 76, 83, 99, 104, 101, 109, 97, 35, 115, 116, 114, 105, 110, 103]⟩ : ByteArray)]] W fun e w' => e = .returned (.tuple #[.float .f64 0, .bool false]) ∧ Below W.heap.size W w') := ⟨fun W => num_3 s W⟩
  have CU : Aside0 (∀ W, Calls Tryd.prog 18 #[.agg #[.int .i64 3, .string s, .string ⟨#[]⟩]] W fun e w' => e = .returned (.tuple #[.float .f64 0, .bool false]) ∧ Below W.heap.size W w') := ⟨fun W => num_p s W⟩
  have q0 : (FloatKind.f64.format.order 0 0 == some Ordering.eq) = true := by decide +kernel
  have HT0 := Aside0.mk hT
  clear hv hl ha hb P1 P2 hT hok h30
  cases b
  all_goals
    go_enter Tryd.func9, Tryd.ntmps9
    go_upto_region 3 with (go_at_call 14; (with_reducible refine (CI.out _ HT0.out).mono ?_); rintro e w1 ⟨rfl, hb⟩; have HB1 := Aside0.mk hb; have HT1 := Aside0.mk (HT0.out.below hb); clear hb)
    obtain ⟨wa, hwa, HA⟩ : ∃ wa, wa = w1.alloc (.cells #[.string (⟨#[104, 116, 116, 112, 58, 47, 47, 119, 119, 119, 46, 119, 51, 46, 111, 114, 103, 47, 50, 48, 48, 49, 47, 88, 77, 76, 83, 99, 104, 101, 109, 97, 35, 100, 111, 117, 98, 108, 101]⟩ : ByteArray), .string (⟨#[104, 116, 116, 112, 58, 47, 47, 119, 119, 119, 46, 119, 51, 46, 111, 114, 103, 47, 50, 48, 48, 49, 47, 88, 77, 76, 83, 99, 104, 101, 109, 97, 35, 100, 101, 99, 105, 109, 97, 108]⟩ : ByteArray), .string (⟨#[104, 116, 116, 112, 58, 47, 47, 119, 119, 119, 46, 119, 51, 46, 111, 114, 103, 47, 50, 48, 48, 49, 47, 88, 77, 76, 83, 99, 104, 101, 109, 97, 35, 105, 110, 116, 101, 103, 101, 114]⟩ : ByteArray), .string (⟨#[104, 116, 116, 112, 58, 47, 47, 119, 119, 119, 46, 119, 51, 46, 111, 114, 103, 47, 50, 48, 48, 49, 47, 88, 77, 76, 83, 99, 104, 101, 109, 97, 35, 115, 116, 114, 105, 110, 103]⟩ : ByteArray), .string (⟨#[120, 58, 121]⟩ : ByteArray)] 9) ∧ Aside0 (Below w1.heap.size w1 wa) := ⟨_, rfl, ⟨below_alloc (Below.refl _ _) _⟩⟩
    obtain ⟨wq, hwq, HQ⟩ := boxT wa 5 s (⟨#[104, 116, 116, 112, 58, 47, 47, 119, 119, 119, 46, 119, 51, 46, 111, 114, 103, 47, 50, 48, 48, 49, 47, 88, 77, 76, 83, 99, 104, 101, 109, 97, 35, 115, 116, 114, 105, 110, 103]⟩ : ByteArray)
    have hsz : wa.heap.size = w1.heap.size + 1 := by rw [hwa]; simp
    have HXq : Aside0 (BoxedT wq (w1.heap.size + 1) 5 s (⟨#[104, 116, 116, 112, 58, 47, 47, 119, 119, 119, 46, 119, 51, 46, 111, 114, 103, 47, 50, 48, 48, 49, 47, 88, 77, 76, 83, 99, 104, 101, 109, 97, 35, 115, 116, 114, 105, 110, 103]⟩ : ByteArray)) := ⟨by rw [hwq, ← hsz]; exact BoxedT.new wa _ _ _ _⟩
    have HBq := Aside0.mk (below_then (below_then HB1.out HB1.out.size HA.out) (Nat.le_trans HB1.out.size HA.out.size) HQ.out)
    have HTq := Aside0.mk ((HT1.out.below HA.out).below HQ.out)
    go_upto_region 4 with (fail)
    rw [← hwa, ← hwq]
    obtain ⟨x0, x1, x2⟩ := HXq.out
    clear hwa hwq hsz
    go_wp2_with (first
      | (go_at_call 18; first
        | ((with_reducible refine (CN.out _).mono ?_); rintro e w2 ⟨rfl, hb⟩; have HB2 := Aside0.mk (below_then HBq.out HBq.out.size hb); have HT2 := Aside0.mk (HTq.out.below hb); clear hb)
        | ((with_reducible refine (CU.out _).mono ?_); rintro e w4 ⟨rfl, hb⟩; have HB4 := Aside0.mk (below_then (below_alloc HB3.out _) (below_alloc HB3.out _).size hb); have HT4 := Aside0.mk ((HT3.out.below (below_alloc (Below.refl _ _) _)).below hb); clear hb))
      | (go_at_call 19; (with_reducible refine (C2.out _).mono ?_); rintro e w3 ⟨rfl, hb⟩; have HB3 := Aside0.mk (below_then HB2.out HB2.out.size hb); have HT3 := Aside0.mk (HT2.out.below hb); clear hb)
      | (go_at_call 20; (with_reducible refine (CS.out _).mono ?_); rintro e w5 ⟨rfl, rfl⟩)
      | (go_at_call 11; (with_reducible refine (CK.out _ HT4.out).mono ?_); rintro e w6 ⟨rfl, hb⟩; have HB6 := Aside0.mk (below_then HB4.out HB4.out.size hb); clear hb))
    go_ret
    exact ⟨rfl, HB6.out⟩
set_option maxRecDepth 100000 in
set_option maxHeartbeats 4000000 in
theorem numbers_4 (s : ByteArray) (kd : Int) (w : World) (h30 : s.size ≤ 30) (hok : isB ⟨3, s, ⟨#[]⟩⟩ = true) (hT : Tabs w) : Calls Tryd.prog 9 #[.string s, .int .i64 kd, .int .i64 4] w fun e w' => e = .returned (.bool true) ∧ Below w.heap.size w w' := by
  have hs : (s.size : Int) ≤ 30 := by omega
  have CI : Aside0 (∀ W, Tabs W → Calls Tryd.prog 14 #[.agg #[.int .i64 3, .string s, .string ⟨#[]⟩]] W fun e w' => e = .returned (.bool true) ∧ Below W.heap.size W w') := ⟨fun W h => by
    have := refIs_any ⟨3, s, ⟨#[]⟩⟩ W (by show s.size ≤ 1000; omega) (by show 0 ≤ 1000; decide) h
    rwa [hok] at this⟩
  have CK := Aside0.mk known_any
  obtain ⟨v, hv⟩ : ∃ v, v = Fb.parseL s.data.toList := ⟨_, rfl⟩
  have hl : v.getD 0 < 18446744073709551616 := by
    cases hv2 : v with
    | none => show 0 < _; omega
    | some r => exact Fb.parseL_lt (l := s.data.toList) (by rw [← hv, hv2]; rfl)
  have P1 := fun W => Fb.parse_any s (by omega) W
  have P2 := fun W => Fb.refParse_any s (by omega) W
  rw [← hv] at P1 P2
  have CS := Aside0.mk (Fb.same_any (v.getD 0) (v.getD 0) hl hl)
  rw [Fb.ordK_self] at CS
  unfold Fb.PlainP at P1 P2
  obtain ⟨a, ha⟩ : ∃ a, a = v.getD 0 := ⟨_, rfl⟩
  obtain ⟨b, hb⟩ : ∃ b, b = v.isSome := ⟨_, rfl⟩
  rw [← ha] at CS P1 P2
  rw [← hb] at P1 P2
  have C2 := Aside0.mk P2
  have CN : Aside0 (∀ W, Calls Tryd.prog 18 #[.agg #[.int .i64 5, .string s, .string (⟨#[120, 58, 121]⟩ : ByteArray)]] W fun e w' => e = .returned (.tuple #[.float .f64 0, .bool false]) ∧ Below W.heap.size W w') := ⟨fun W => num_4 s W⟩
  have CU : Aside0 (∀ W, Calls Tryd.prog 18 #[.agg #[.int .i64 3, .string s, .string ⟨#[]⟩]] W fun e w' => e = .returned (.tuple #[.float .f64 0, .bool false]) ∧ Below W.heap.size W w') := ⟨fun W => num_p s W⟩
  have q0 : (FloatKind.f64.format.order 0 0 == some Ordering.eq) = true := by decide +kernel
  have HT0 := Aside0.mk hT
  clear hv hl ha hb P1 P2 hT hok h30
  cases b
  all_goals
    go_enter Tryd.func9, Tryd.ntmps9
    go_upto_region 3 with (go_at_call 14; (with_reducible refine (CI.out _ HT0.out).mono ?_); rintro e w1 ⟨rfl, hb⟩; have HB1 := Aside0.mk hb; have HT1 := Aside0.mk (HT0.out.below hb); clear hb)
    obtain ⟨wa, hwa, HA⟩ : ∃ wa, wa = w1.alloc (.cells #[.string (⟨#[104, 116, 116, 112, 58, 47, 47, 119, 119, 119, 46, 119, 51, 46, 111, 114, 103, 47, 50, 48, 48, 49, 47, 88, 77, 76, 83, 99, 104, 101, 109, 97, 35, 100, 111, 117, 98, 108, 101]⟩ : ByteArray), .string (⟨#[104, 116, 116, 112, 58, 47, 47, 119, 119, 119, 46, 119, 51, 46, 111, 114, 103, 47, 50, 48, 48, 49, 47, 88, 77, 76, 83, 99, 104, 101, 109, 97, 35, 100, 101, 99, 105, 109, 97, 108]⟩ : ByteArray), .string (⟨#[104, 116, 116, 112, 58, 47, 47, 119, 119, 119, 46, 119, 51, 46, 111, 114, 103, 47, 50, 48, 48, 49, 47, 88, 77, 76, 83, 99, 104, 101, 109, 97, 35, 105, 110, 116, 101, 103, 101, 114]⟩ : ByteArray), .string (⟨#[104, 116, 116, 112, 58, 47, 47, 119, 119, 119, 46, 119, 51, 46, 111, 114, 103, 47, 50, 48, 48, 49, 47, 88, 77, 76, 83, 99, 104, 101, 109, 97, 35, 115, 116, 114, 105, 110, 103]⟩ : ByteArray), .string (⟨#[120, 58, 121]⟩ : ByteArray)] 9) ∧ Aside0 (Below w1.heap.size w1 wa) := ⟨_, rfl, ⟨below_alloc (Below.refl _ _) _⟩⟩
    obtain ⟨wq, hwq, HQ⟩ := boxT wa 5 s (⟨#[120, 58, 121]⟩ : ByteArray)
    have hsz : wa.heap.size = w1.heap.size + 1 := by rw [hwa]; simp
    have HXq : Aside0 (BoxedT wq (w1.heap.size + 1) 5 s (⟨#[120, 58, 121]⟩ : ByteArray)) := ⟨by rw [hwq, ← hsz]; exact BoxedT.new wa _ _ _ _⟩
    have HBq := Aside0.mk (below_then (below_then HB1.out HB1.out.size HA.out) (Nat.le_trans HB1.out.size HA.out.size) HQ.out)
    have HTq := Aside0.mk ((HT1.out.below HA.out).below HQ.out)
    go_upto_region 4 with (fail)
    rw [← hwa, ← hwq]
    obtain ⟨x0, x1, x2⟩ := HXq.out
    clear hwa hwq hsz
    go_wp2_with (first
      | (go_at_call 18; first
        | ((with_reducible refine (CN.out _).mono ?_); rintro e w2 ⟨rfl, hb⟩; have HB2 := Aside0.mk (below_then HBq.out HBq.out.size hb); have HT2 := Aside0.mk (HTq.out.below hb); clear hb)
        | ((with_reducible refine (CU.out _).mono ?_); rintro e w4 ⟨rfl, hb⟩; have HB4 := Aside0.mk (below_then (below_alloc HB3.out _) (below_alloc HB3.out _).size hb); have HT4 := Aside0.mk ((HT3.out.below (below_alloc (Below.refl _ _) _)).below hb); clear hb))
      | (go_at_call 19; (with_reducible refine (C2.out _).mono ?_); rintro e w3 ⟨rfl, hb⟩; have HB3 := Aside0.mk (below_then HB2.out HB2.out.size hb); have HT3 := Aside0.mk (HT2.out.below hb); clear hb)
      | (go_at_call 20; (with_reducible refine (CS.out _).mono ?_); rintro e w5 ⟨rfl, rfl⟩)
      | (go_at_call 11; (with_reducible refine (CK.out _ HT4.out).mono ?_); rintro e w6 ⟨rfl, hb⟩; have HB6 := Aside0.mk (below_then HB4.out HB4.out.size hb); clear hb))
    go_ret
    exact ⟨rfl, HB6.out⟩
set_option maxRecDepth 100000 in
set_option maxHeartbeats 2000000 in
theorem numbers_law (s : ByteArray) (kd way : Int) (w : World) (_h : s.size ≤ maxLen) (h2 : s.size ≤ 140737488351232) (_h3 : (Lit.int .i64 kd).wf = true) (_h4 : (Lit.int .i64 way).wf = true) (hT : Tabs w) : Calls Tryd.prog 9 #[.string s, .int .i64 kd, .int .i64 way] w fun e w' => e = .returned (.bool true) ∧ Below w.heap.size w w' := by
  clear _h3 _h4
  by_cases h30 : 30 < s.size
  · have g : (30 : Int) < (s.size : Int) := by omega
    clear h30 hT
    go_enter Tryd.func9, Tryd.ntmps9
    go_wp2_with fail
    go_ret
    exact ⟨rfl, Below.refl _ _⟩
  have g : (s.size : Int) ≤ 30 := by omega
  by_cases h0 : way < 0
  · clear h30 hT
    go_enter Tryd.func9, Tryd.ntmps9
    go_wp2_with fail
    go_ret
    exact ⟨rfl, Below.refl _ _⟩
  by_cases h4 : 4 < way
  · have g0 : 0 ≤ way := by omega
    clear h30 hT h0
    go_enter Tryd.func9, Tryd.ntmps9
    go_wp2_with fail
    go_ret
    exact ⟨rfl, Below.refl _ _⟩
  cases hok : isB ⟨3, s, ⟨#[]⟩⟩ with
  | false =>
    have g0 : 0 ≤ way := by omega
    have g4 : way ≤ 4 := by omega
    have CI : Aside0 (∀ W, Tabs W → Calls Tryd.prog 14 #[.agg #[.int .i64 3, .string s, .string ⟨#[]⟩]] W fun e w' => e = .returned (.bool false) ∧ Below W.heap.size W w') := ⟨fun W h => by
      have := refIs_any ⟨3, s, ⟨#[]⟩⟩ W (by show s.size ≤ 1000; omega) (by show 0 ≤ 1000; decide) h
      rwa [hok] at this⟩
    have HT0 := Aside0.mk hT
    clear h30 hT h0 h4 hok
    go_enter Tryd.func9, Tryd.ntmps9
    go_wp2_with (go_at_call 14; (with_reducible refine (CI.out _ HT0.out).mono ?_); rintro e w1 ⟨rfl, hb⟩; have HB1 := Aside0.mk hb; clear hb)
    go_ret
    exact ⟨rfl, HB1.out⟩
  | true =>
    rcases (show way = 0 ∨ way = 1 ∨ way = 2 ∨ way = 3 ∨ way = 4 by omega) with rfl | rfl | rfl | rfl | rfl
    · exact numbers_0 s kd w (by omega) hok hT
    · exact numbers_1 s kd w (by omega) hok hT
    · exact numbers_2 s kd w (by omega) hok hT
    · exact numbers_3 s kd w (by omega) hok hT
    · exact numbers_4 s kd w (by omega) hok hT
end Go.Proofs.YtmenjcjpihpjjaaDoor.Tm
