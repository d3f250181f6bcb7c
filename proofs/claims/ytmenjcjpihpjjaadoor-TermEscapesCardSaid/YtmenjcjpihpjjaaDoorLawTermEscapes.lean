/- The law TermEscapes: what must be escaped is, and nothing else. -/
import Derived.Test.YtmenjcjpihpjjaaDoorTmOE
import Derived.Test.YtmenjcjpihpjjaaDoorTmT
set_option linter.unusedSimpArgs false
set_option linter.unusedVariables false
namespace Go.Proofs.YtmenjcjpihpjjaaDoor.Tm
open Go Go.RowKit Go.Shelf Go.Proofs.YtmenjcjpihpjjaaDoorW.PrintWords

/-- A text of one byte. -/
def one (c : UInt8) : ByteArray := ⟨#[c]⟩
theorem one_high : ∀ c : Fin 256, 128 ≤ c.1 → isB ⟨3, one (UInt8.ofNat c.1), ⟨#[]⟩⟩ = false := by decide +kernel
theorem one_low : ∀ c : Fin 128, isB ⟨3, one (UInt8.ofNat c.1), ⟨#[]⟩⟩ = true ∧ validB ⟨(quoteL [UInt8.ofNat c.1]).toArray⟩ = true := by decide +kernel
theorem one_conv (c : UInt8) (w : World) : (convert 22 9 (.slice (some ⟨w.heap.size, 0, none⟩) 1 1)).run Tryd.prog (w.alloc (.cells #[.int .u8 (c.toNat : Int)] 5)) = .ok (.string (one c)) (w.alloc (.cells #[.int .u8 (c.toNat : Int)] 5)) := by
  have := run_convert_bytes_back (P := Tryd.prog) (w.alloc (.cells #[.int .u8 (c.toNat : Int)] 5)) 22 9 5 ⟨w.heap.size, 0, none⟩ 1 [c] Tryd.underlying22 Tryd.underlying5 Tryd.underlying9 (by
    intro j hj
    match j, hj with
    | 0, _ => simp [Addr.add]
    | j + 1, hj => simp at hj)
  exact this
set_option maxRecDepth 100000 in
set_option maxHeartbeats 4000000 in
theorem escapes_high (c : UInt8) (w : World) (hT : Tabs w) (g : (128 : Int) ≤ (c.toNat : Int)) (hi : isB ⟨3, one c, ⟨#[]⟩⟩ = false) : Calls Tryd.prog 3 #[.int .u8 (c.toNat : Int)] w fun e w' => e = .returned (.bool true) ∧ Below w.heap.size w w' := by
  have hcv := one_conv c w
  obtain ⟨wb, hwb, HB⟩ : ∃ wb, wb = w.alloc (.cells #[.int .u8 (c.toNat : Int)] 5) ∧ Aside0 (Below w.heap.size w wb) := ⟨_, rfl, ⟨below_alloc (Below.refl _ _) _⟩⟩
  obtain ⟨wt, hwt, HBt⟩ := boxT wb 3 (one c) ⟨#[]⟩
  have hsz : wb.heap.size = w.heap.size + 1 := by rw [hwb]; simp
  have HX : Aside0 (BoxedT wt (w.heap.size + 1) 3 (one c) ⟨#[]⟩) := ⟨by rw [hwt, ← hsz]; exact BoxedT.new wb _ _ _ _⟩
  have HB0 : Aside0 (Below w.heap.size w wt) := ⟨HB.out.trans (HBt.out.mono HB.out.size)⟩
  have HT0 := Aside0.mk (hT.below HB0.out)
  have HW : Aside0 ((w.alloc (.cells #[.int .u8 (c.toNat : Int)] 5)).alloc (.cells #[.int .i64 3, .string (one c), .string ⟨#[]⟩] 24) = wt) := ⟨by rw [hwt, hwb]⟩
  have CK := Aside0.mk known_any
  have hs1 : (one c).size = 1 := rfl
  obtain ⟨x0, x1, x2⟩ := HX.out
  have CI : Aside0 (∀ W, Tabs W → Calls Tryd.prog 10 #[.agg #[.int .i64 3, .string (one c), .string ⟨#[]⟩]] W fun e w' => e = .returned (.bool false) ∧ Below W.heap.size W w') := ⟨fun W h => by
    have := is_any ⟨3, one c, ⟨#[]⟩⟩ W (by show 1 ≤ 1000; decide) (by show 0 ≤ 1000; decide) h
    rwa [hi] at this⟩
  clear hwb hwt hsz hT hi
  go_enter Tryd.func3, Tryd.ntmps3
  go_upto_region 4 with (fail)
  rw [HW.out]
  clear hcv
  go_wp2_with (first
    | (go_at_call 10; (with_reducible refine (CI.out _ HT0.out).mono ?_); rintro e w1 ⟨rfl, hb⟩; have HB1 := Aside0.mk (below_then HB0.out HB0.out.size hb); have HT1 := Aside0.mk (HT0.out.below hb); clear hb)
    | (go_at_call 11; (with_reducible refine (CK.out _ HT1.out).mono ?_); rintro e w2 ⟨rfl, hb⟩; have HB2 := Aside0.mk (below_then HB1.out HB1.out.size hb); clear hb))
  go_ret
  exact ⟨rfl, HB2.out⟩
set_option maxRecDepth 100000 in
set_option maxHeartbeats 4000000 in
theorem escapes_plain (c : UInt8) (w : World) (hT : Tabs w) (q : ByteArray) (hq : showS ⟨3, one c, ⟨#[]⟩⟩ = q) (hqe : (⟨#[34]⟩ : ByteArray) ++ one c ++ (⟨#[34]⟩ : ByteArray) = q) (g1 : (32 : Int) ≤ (c.toNat : Int)) (g2 : (c.toNat : Int) < 127) (n1 : ((c.toNat : Int) != 34) = true) (n2 : ((c.toNat : Int) != 92) = true) (hi : isB ⟨3, one c, ⟨#[]⟩⟩ = true) : Calls Tryd.prog 3 #[.int .u8 (c.toNat : Int)] w fun e w' => e = .returned (.bool true) ∧ Below w.heap.size w w' := by
  have hcv := one_conv c w
  obtain ⟨wb, hwb, HB⟩ : ∃ wb, wb = w.alloc (.cells #[.int .u8 (c.toNat : Int)] 5) ∧ Aside0 (Below w.heap.size w wb) := ⟨_, rfl, ⟨below_alloc (Below.refl _ _) _⟩⟩
  obtain ⟨wt, hwt, HBt⟩ := boxT wb 3 (one c) ⟨#[]⟩
  have hsz : wb.heap.size = w.heap.size + 1 := by rw [hwb]; simp
  have HX : Aside0 (BoxedT wt (w.heap.size + 1) 3 (one c) ⟨#[]⟩) := ⟨by rw [hwt, ← hsz]; exact BoxedT.new wb _ _ _ _⟩
  have HB0 : Aside0 (Below w.heap.size w wt) := ⟨HB.out.trans (HBt.out.mono HB.out.size)⟩
  have HT0 := Aside0.mk (hT.below HB0.out)
  have HW : Aside0 ((w.alloc (.cells #[.int .u8 (c.toNat : Int)] 5)).alloc (.cells #[.int .i64 3, .string (one c), .string ⟨#[]⟩] 24) = wt) := ⟨by rw [hwt, hwb]⟩
  have CK := Aside0.mk known_any
  have hs1 : (one c).size = 1 := rfl
  obtain ⟨x0, x1, x2⟩ := HX.out
  have CI : Aside0 (∀ W, Tabs W → Calls Tryd.prog 10 #[.agg #[.int .i64 3, .string (one c), .string ⟨#[]⟩]] W fun e w' => e = .returned (.bool true) ∧ Below W.heap.size W w') := ⟨fun W h => by
    have := is_any ⟨3, one c, ⟨#[]⟩⟩ W (by show 1 ≤ 1000; decide) (by show 0 ≤ 1000; decide) h
    rwa [hi] at this⟩
  have CS : Aside0 (∀ W, Calls Tryd.prog 12 #[.agg #[.int .i64 3, .string (one c), .string ⟨#[]⟩]] W fun e w' => e = .returned (.string q) ∧ Below W.heap.size W w') := ⟨fun W => by
    have := show_any ⟨3, one c, ⟨#[]⟩⟩ W (by show 1 ≤ 1000; decide) (by show 0 ≤ 1000; decide)
    rwa [show showS ⟨3, one c, ⟨#[]⟩⟩ = q from hq] at this⟩
  have g3 : (c.toNat : Int) < 128 := by omega
  clear hwb hwt hsz hT hi hq
  go_enter Tryd.func3, Tryd.ntmps3
  go_upto_region 5 with (fail)
  rw [HW.out]
  clear hcv
  go_wp2_with (first
    | (go_at_call 12; (with_reducible refine (CS.out _).mono ?_); rintro e w1 ⟨rfl, hb⟩; have HB1 := Aside0.mk (below_then HB0.out HB0.out.size hb); have HT1 := Aside0.mk (HT0.out.below hb); obtain ⟨y0, y1, y2⟩ := HX.out.below hb; clear hb)
    | (go_at_call 10; (with_reducible refine (CI.out _ HT1.out).mono ?_); rintro e w2 ⟨rfl, hb⟩; have HB2 := Aside0.mk (below_then HB1.out HB1.out.size hb); have HT2 := Aside0.mk (HT1.out.below hb); clear hb)
    | (go_at_call 11; (with_reducible refine (CK.out _ HT2.out).mono ?_); rintro e w3 ⟨rfl, hb⟩; have HB3 := Aside0.mk (below_then HB2.out HB2.out.size hb); clear hb))
  go_ret
  exact ⟨ret_b (by first | rfl | (simp; done)), HB3.out⟩
theorem one_must : ∀ c : Fin 128, mustB c.1 = true → 4 ≤ (showS ⟨3, one (UInt8.ofNat c.1), ⟨#[]⟩⟩).size ∧ ((showS ⟨3, one (UInt8.ofNat c.1), ⟨#[]⟩⟩).get! 1).toNat = 92 := by decide +kernel
set_option maxRecDepth 100000 in
set_option maxHeartbeats 4000000 in
theorem escapes_ctl (c : UInt8) (w : World) (hT : Tabs w) (q : ByteArray) (hq : showS ⟨3, one c, ⟨#[]⟩⟩ = q) (hq4 : (4 : Int) ≤ (q.size : Int)) (hq1 : 1 < q.size) (hqb : q[1].toNat = 92) (g1 : (c.toNat : Int) < 32) (hi : isB ⟨3, one c, ⟨#[]⟩⟩ = true) : Calls Tryd.prog 3 #[.int .u8 (c.toNat : Int)] w fun e w' => e = .returned (.bool true) ∧ Below w.heap.size w w' := by
  have hcv := one_conv c w
  obtain ⟨wb, hwb, HB⟩ : ∃ wb, wb = w.alloc (.cells #[.int .u8 (c.toNat : Int)] 5) ∧ Aside0 (Below w.heap.size w wb) := ⟨_, rfl, ⟨below_alloc (Below.refl _ _) _⟩⟩
  obtain ⟨wt, hwt, HBt⟩ := boxT wb 3 (one c) ⟨#[]⟩
  have hsz : wb.heap.size = w.heap.size + 1 := by rw [hwb]; simp
  have HX : Aside0 (BoxedT wt (w.heap.size + 1) 3 (one c) ⟨#[]⟩) := ⟨by rw [hwt, ← hsz]; exact BoxedT.new wb _ _ _ _⟩
  have HB0 : Aside0 (Below w.heap.size w wt) := ⟨HB.out.trans (HBt.out.mono HB.out.size)⟩
  have HT0 := Aside0.mk (hT.below HB0.out)
  have HW : Aside0 ((w.alloc (.cells #[.int .u8 (c.toNat : Int)] 5)).alloc (.cells #[.int .i64 3, .string (one c), .string ⟨#[]⟩] 24) = wt) := ⟨by rw [hwt, hwb]⟩
  have CK := Aside0.mk known_any
  have hs1 : (one c).size = 1 := rfl
  obtain ⟨x0, x1, x2⟩ := HX.out
  have CI : Aside0 (∀ W, Tabs W → Calls Tryd.prog 10 #[.agg #[.int .i64 3, .string (one c), .string ⟨#[]⟩]] W fun e w' => e = .returned (.bool true) ∧ Below W.heap.size W w') := ⟨fun W h => by
    have := is_any ⟨3, one c, ⟨#[]⟩⟩ W (by show 1 ≤ 1000; decide) (by show 0 ≤ 1000; decide) h
    rwa [hi] at this⟩
  have CS : Aside0 (∀ W, Calls Tryd.prog 12 #[.agg #[.int .i64 3, .string (one c), .string ⟨#[]⟩]] W fun e w' => e = .returned (.string q) ∧ Below W.heap.size W w') := ⟨fun W => by
    have := show_any ⟨3, one c, ⟨#[]⟩⟩ W (by show 1 ≤ 1000; decide) (by show 0 ≤ 1000; decide)
    rwa [show showS ⟨3, one c, ⟨#[]⟩⟩ = q from hq] at this⟩
  have CR : Aside0 (∀ W, Tabs W → Calls Tryd.prog 13 #[.string q] W fun e w' => e = .returned (.tuple #[.agg #[.int .i64 3, .string (one c), .string ⟨#[]⟩], .bool true]) ∧ Below W.heap.size W w') := ⟨fun W h => refTerm_any 3 (one c) ⟨#[]⟩ q W hi hq h⟩
  have heq : ∀ W : World, (Op.equalIn 10000 24 (.agg #[.int .i64 3, .string (one c), .string ⟨#[]⟩]) (.agg #[.int .i64 3, .string (one c), .string ⟨#[]⟩])).run Tryd.prog W = .ok true W := fun W => by
    have := term_eq W ⟨3, one c, ⟨#[]⟩⟩ ⟨3, one c, ⟨#[]⟩⟩
    simpa using this
  have HEQ := Aside0.mk heq
  have HQB := Aside0.mk hqb
  have g3 : (c.toNat : Int) < 128 := by omega
  clear hwb hwt hsz hT hi hq heq hqb
  go_enter Tryd.func3, Tryd.ntmps3
  go_upto_region 5 with (fail)
  rw [HW.out]
  clear hcv
  have g0 : (0 : Int) ≤ (c.toNat : Int) := by omega
  go_upto_region 9 with (
    (go_at_call 12; (with_reducible refine (CS.out _).mono ?_); rintro e w1 ⟨rfl, hb⟩; have HB1 := Aside0.mk (below_then HB0.out HB0.out.size hb); have HT1 := Aside0.mk (HT0.out.below hb); have HX1 := Aside0.mk (HX.out.below hb); clear hb))
  clear x0 x1 x2
  go_upto_region 10 with (
    (go_at_call 13; (with_reducible refine (CR.out _ HT1.out).mono ?_); rintro e w2 ⟨rfl, hb⟩; have HB2 := Aside0.mk (below_then HB1.out HB1.out.size hb); have HT2 := Aside0.mk (HT1.out.below hb); have HX2 := Aside0.mk (HX1.out.below hb); clear hb))
  obtain ⟨wu, hwu, HU⟩ := boxT w2 3 (one c) ⟨#[]⟩
  rw [← hwu]
  have HB3 := Aside0.mk (below_then HB2.out HB2.out.size HU.out)
  have HT3 := Aside0.mk (HT2.out.below HU.out)
  have HX3 := Aside0.mk (HX2.out.below HU.out)
  have HY3 : Aside0 (BoxedT wu w2.heap.size 3 (one c) ⟨#[]⟩) := ⟨by rw [hwu]; exact BoxedT.new w2 _ _ _ _⟩
  clear hwu
  obtain ⟨x0, x1, x2⟩ := HX3.out
  have heq := HEQ.out
  have hqb := HQB.out
  go_wp2_with (first
    | (go_at_call 10; (with_reducible refine (CI.out _ HT3.out).mono ?_); rintro e w4 ⟨rfl, hb⟩; have HB4 := Aside0.mk (below_then HB3.out HB3.out.size hb); have HT4 := Aside0.mk (HT3.out.below hb); obtain ⟨y0, y1, y2⟩ := HX3.out.below hb; obtain ⟨v0, v1, v2⟩ := HY3.out.below hb; clear hb)
    | (go_at_call 11; (with_reducible refine (CK.out _ HT4.out).mono ?_); rintro e w5 ⟨rfl, hb⟩; have HB5 := Aside0.mk (below_then HB4.out HB4.out.size hb); clear hb))
  go_ret
  exact ⟨ret_b (by first | rfl | (simp; done)), HB5.out⟩
set_option maxRecDepth 100000 in
set_option maxHeartbeats 4000000 in
theorem escapes_del (c : UInt8) (w : World) (hT : Tabs w) (q : ByteArray) (hq : showS ⟨3, one c, ⟨#[]⟩⟩ = q) (hq4 : (4 : Int) ≤ (q.size : Int)) (hq1 : 1 < q.size) (hqb : q[1].toNat = 92) (g1 : (32 : Int) ≤ (c.toNat : Int)) (g2 : (127 : Int) ≤ (c.toNat : Int)) (g4 : (c.toNat : Int) < 128) (hi : isB ⟨3, one c, ⟨#[]⟩⟩ = true) : Calls Tryd.prog 3 #[.int .u8 (c.toNat : Int)] w fun e w' => e = .returned (.bool true) ∧ Below w.heap.size w w' := by
  have hcv := one_conv c w
  obtain ⟨wb, hwb, HB⟩ : ∃ wb, wb = w.alloc (.cells #[.int .u8 (c.toNat : Int)] 5) ∧ Aside0 (Below w.heap.size w wb) := ⟨_, rfl, ⟨below_alloc (Below.refl _ _) _⟩⟩
  obtain ⟨wt, hwt, HBt⟩ := boxT wb 3 (one c) ⟨#[]⟩
  have hsz : wb.heap.size = w.heap.size + 1 := by rw [hwb]; simp
  have HX : Aside0 (BoxedT wt (w.heap.size + 1) 3 (one c) ⟨#[]⟩) := ⟨by rw [hwt, ← hsz]; exact BoxedT.new wb _ _ _ _⟩
  have HB0 : Aside0 (Below w.heap.size w wt) := ⟨HB.out.trans (HBt.out.mono HB.out.size)⟩
  have HT0 := Aside0.mk (hT.below HB0.out)
  have HW : Aside0 ((w.alloc (.cells #[.int .u8 (c.toNat : Int)] 5)).alloc (.cells #[.int .i64 3, .string (one c), .string ⟨#[]⟩] 24) = wt) := ⟨by rw [hwt, hwb]⟩
  have CK := Aside0.mk known_any
  have hs1 : (one c).size = 1 := rfl
  obtain ⟨x0, x1, x2⟩ := HX.out
  have CI : Aside0 (∀ W, Tabs W → Calls Tryd.prog 10 #[.agg #[.int .i64 3, .string (one c), .string ⟨#[]⟩]] W fun e w' => e = .returned (.bool true) ∧ Below W.heap.size W w') := ⟨fun W h => by
    have := is_any ⟨3, one c, ⟨#[]⟩⟩ W (by show 1 ≤ 1000; decide) (by show 0 ≤ 1000; decide) h
    rwa [hi] at this⟩
  have CS : Aside0 (∀ W, Calls Tryd.prog 12 #[.agg #[.int .i64 3, .string (one c), .string ⟨#[]⟩]] W fun e w' => e = .returned (.string q) ∧ Below W.heap.size W w') := ⟨fun W => by
    have := show_any ⟨3, one c, ⟨#[]⟩⟩ W (by show 1 ≤ 1000; decide) (by show 0 ≤ 1000; decide)
    rwa [show showS ⟨3, one c, ⟨#[]⟩⟩ = q from hq] at this⟩
  have CR : Aside0 (∀ W, Tabs W → Calls Tryd.prog 13 #[.string q] W fun e w' => e = .returned (.tuple #[.agg #[.int .i64 3, .string (one c), .string ⟨#[]⟩], .bool true]) ∧ Below W.heap.size W w') := ⟨fun W h => refTerm_any 3 (one c) ⟨#[]⟩ q W hi hq h⟩
  have heq : ∀ W : World, (Op.equalIn 10000 24 (.agg #[.int .i64 3, .string (one c), .string ⟨#[]⟩]) (.agg #[.int .i64 3, .string (one c), .string ⟨#[]⟩])).run Tryd.prog W = .ok true W := fun W => by
    have := term_eq W ⟨3, one c, ⟨#[]⟩⟩ ⟨3, one c, ⟨#[]⟩⟩
    simpa using this
  have HEQ := Aside0.mk heq
  have HQB := Aside0.mk hqb
  have g3 : (c.toNat : Int) < 128 := by omega
  clear hwb hwt hsz hT hi hq heq hqb
  go_enter Tryd.func3, Tryd.ntmps3
  go_upto_region 5 with (fail)
  rw [HW.out]
  clear hcv
  have g0 : (0 : Int) ≤ (c.toNat : Int) := by omega
  go_upto_region 9 with (
    (go_at_call 12; (with_reducible refine (CS.out _).mono ?_); rintro e w1 ⟨rfl, hb⟩; have HB1 := Aside0.mk (below_then HB0.out HB0.out.size hb); have HT1 := Aside0.mk (HT0.out.below hb); have HX1 := Aside0.mk (HX.out.below hb); clear hb))
  clear x0 x1 x2
  go_upto_region 10 with (
    (go_at_call 13; (with_reducible refine (CR.out _ HT1.out).mono ?_); rintro e w2 ⟨rfl, hb⟩; have HB2 := Aside0.mk (below_then HB1.out HB1.out.size hb); have HT2 := Aside0.mk (HT1.out.below hb); have HX2 := Aside0.mk (HX1.out.below hb); clear hb))
  obtain ⟨wu, hwu, HU⟩ := boxT w2 3 (one c) ⟨#[]⟩
  rw [← hwu]
  have HB3 := Aside0.mk (below_then HB2.out HB2.out.size HU.out)
  have HT3 := Aside0.mk (HT2.out.below HU.out)
  have HX3 := Aside0.mk (HX2.out.below HU.out)
  have HY3 : Aside0 (BoxedT wu w2.heap.size 3 (one c) ⟨#[]⟩) := ⟨by rw [hwu]; exact BoxedT.new w2 _ _ _ _⟩
  clear hwu
  obtain ⟨x0, x1, x2⟩ := HX3.out
  have heq := HEQ.out
  have hqb := HQB.out
  go_wp2_with (first
    | (go_at_call 10; (with_reducible refine (CI.out _ HT3.out).mono ?_); rintro e w4 ⟨rfl, hb⟩; have HB4 := Aside0.mk (below_then HB3.out HB3.out.size hb); have HT4 := Aside0.mk (HT3.out.below hb); obtain ⟨y0, y1, y2⟩ := HX3.out.below hb; obtain ⟨v0, v1, v2⟩ := HY3.out.below hb; clear hb)
    | (go_at_call 11; (with_reducible refine (CK.out _ HT4.out).mono ?_); rintro e w5 ⟨rfl, hb⟩; have HB5 := Aside0.mk (below_then HB4.out HB4.out.size hb); clear hb))
  go_ret
  exact ⟨ret_b (by first | rfl | (simp; done)), HB5.out⟩
set_option maxRecDepth 100000 in
set_option maxHeartbeats 4000000 in
theorem escapes_quo (c : UInt8) (w : World) (hT : Tabs w) (q : ByteArray) (hq : showS ⟨3, one c, ⟨#[]⟩⟩ = q) (hq4 : (4 : Int) ≤ (q.size : Int)) (hq1 : 1 < q.size) (hqb : q[1].toNat = 92) (g1 : (32 : Int) ≤ (c.toNat : Int)) (g2 : (c.toNat : Int) < 127) (g4 : Aside0 (((c.toNat : Int) != 34) = false)) (hi : isB ⟨3, one c, ⟨#[]⟩⟩ = true) : Calls Tryd.prog 3 #[.int .u8 (c.toNat : Int)] w fun e w' => e = .returned (.bool true) ∧ Below w.heap.size w w' := by
  have hcv := one_conv c w
  obtain ⟨wb, hwb, HB⟩ : ∃ wb, wb = w.alloc (.cells #[.int .u8 (c.toNat : Int)] 5) ∧ Aside0 (Below w.heap.size w wb) := ⟨_, rfl, ⟨below_alloc (Below.refl _ _) _⟩⟩
  obtain ⟨wt, hwt, HBt⟩ := boxT wb 3 (one c) ⟨#[]⟩
  have hsz : wb.heap.size = w.heap.size + 1 := by rw [hwb]; simp
  have HX : Aside0 (BoxedT wt (w.heap.size + 1) 3 (one c) ⟨#[]⟩) := ⟨by rw [hwt, ← hsz]; exact BoxedT.new wb _ _ _ _⟩
  have HB0 : Aside0 (Below w.heap.size w wt) := ⟨HB.out.trans (HBt.out.mono HB.out.size)⟩
  have HT0 := Aside0.mk (hT.below HB0.out)
  have HW : Aside0 ((w.alloc (.cells #[.int .u8 (c.toNat : Int)] 5)).alloc (.cells #[.int .i64 3, .string (one c), .string ⟨#[]⟩] 24) = wt) := ⟨by rw [hwt, hwb]⟩
  have CK := Aside0.mk known_any
  have hs1 : (one c).size = 1 := rfl
  obtain ⟨x0, x1, x2⟩ := HX.out
  have CI : Aside0 (∀ W, Tabs W → Calls Tryd.prog 10 #[.agg #[.int .i64 3, .string (one c), .string ⟨#[]⟩]] W fun e w' => e = .returned (.bool true) ∧ Below W.heap.size W w') := ⟨fun W h => by
    have := is_any ⟨3, one c, ⟨#[]⟩⟩ W (by show 1 ≤ 1000; decide) (by show 0 ≤ 1000; decide) h
    rwa [hi] at this⟩
  have CS : Aside0 (∀ W, Calls Tryd.prog 12 #[.agg #[.int .i64 3, .string (one c), .string ⟨#[]⟩]] W fun e w' => e = .returned (.string q) ∧ Below W.heap.size W w') := ⟨fun W => by
    have := show_any ⟨3, one c, ⟨#[]⟩⟩ W (by show 1 ≤ 1000; decide) (by show 0 ≤ 1000; decide)
    rwa [show showS ⟨3, one c, ⟨#[]⟩⟩ = q from hq] at this⟩
  have CR : Aside0 (∀ W, Tabs W → Calls Tryd.prog 13 #[.string q] W fun e w' => e = .returned (.tuple #[.agg #[.int .i64 3, .string (one c), .string ⟨#[]⟩], .bool true]) ∧ Below W.heap.size W w') := ⟨fun W h => refTerm_any 3 (one c) ⟨#[]⟩ q W hi hq h⟩
  have heq : ∀ W : World, (Op.equalIn 10000 24 (.agg #[.int .i64 3, .string (one c), .string ⟨#[]⟩]) (.agg #[.int .i64 3, .string (one c), .string ⟨#[]⟩])).run Tryd.prog W = .ok true W := fun W => by
    have := term_eq W ⟨3, one c, ⟨#[]⟩⟩ ⟨3, one c, ⟨#[]⟩⟩
    simpa using this
  have HEQ := Aside0.mk heq
  have HQB := Aside0.mk hqb
  have g3 : (c.toNat : Int) < 128 := by omega
  clear hwb hwt hsz hT hi hq heq hqb
  go_enter Tryd.func3, Tryd.ntmps3
  go_upto_region 5 with (fail)
  rw [HW.out]
  clear hcv
  have g5 := g4.out
  go_upto_region 9 with (
    (go_at_call 12; (with_reducible refine (CS.out _).mono ?_); rintro e w1 ⟨rfl, hb⟩; have HB1 := Aside0.mk (below_then HB0.out HB0.out.size hb); have HT1 := Aside0.mk (HT0.out.below hb); have HX1 := Aside0.mk (HX.out.below hb); clear hb))
  clear x0 x1 x2
  go_upto_region 10 with (
    (go_at_call 13; (with_reducible refine (CR.out _ HT1.out).mono ?_); rintro e w2 ⟨rfl, hb⟩; have HB2 := Aside0.mk (below_then HB1.out HB1.out.size hb); have HT2 := Aside0.mk (HT1.out.below hb); have HX2 := Aside0.mk (HX1.out.below hb); clear hb))
  obtain ⟨wu, hwu, HU⟩ := boxT w2 3 (one c) ⟨#[]⟩
  rw [← hwu]
  have HB3 := Aside0.mk (below_then HB2.out HB2.out.size HU.out)
  have HT3 := Aside0.mk (HT2.out.below HU.out)
  have HX3 := Aside0.mk (HX2.out.below HU.out)
  have HY3 : Aside0 (BoxedT wu w2.heap.size 3 (one c) ⟨#[]⟩) := ⟨by rw [hwu]; exact BoxedT.new w2 _ _ _ _⟩
  clear hwu
  obtain ⟨x0, x1, x2⟩ := HX3.out
  have heq := HEQ.out
  have hqb := HQB.out
  go_wp2_with (first
    | (go_at_call 10; (with_reducible refine (CI.out _ HT3.out).mono ?_); rintro e w4 ⟨rfl, hb⟩; have HB4 := Aside0.mk (below_then HB3.out HB3.out.size hb); have HT4 := Aside0.mk (HT3.out.below hb); obtain ⟨y0, y1, y2⟩ := HX3.out.below hb; obtain ⟨v0, v1, v2⟩ := HY3.out.below hb; clear hb)
    | (go_at_call 11; (with_reducible refine (CK.out _ HT4.out).mono ?_); rintro e w5 ⟨rfl, hb⟩; have HB5 := Aside0.mk (below_then HB4.out HB4.out.size hb); clear hb))
  go_ret
  exact ⟨ret_b (by first | rfl | (simp; done)), HB5.out⟩
set_option maxRecDepth 100000 in
set_option maxHeartbeats 4000000 in
theorem escapes_bsl (c : UInt8) (w : World) (hT : Tabs w) (q : ByteArray) (hq : showS ⟨3, one c, ⟨#[]⟩⟩ = q) (hq4 : (4 : Int) ≤ (q.size : Int)) (hq1 : 1 < q.size) (hqb : q[1].toNat = 92) (g1 : (32 : Int) ≤ (c.toNat : Int)) (g2 : (c.toNat : Int) < 127) (n1 : ((c.toNat : Int) != 34) = true) (g4 : Aside0 (((c.toNat : Int) != 92) = false)) (hi : isB ⟨3, one c, ⟨#[]⟩⟩ = true) : Calls Tryd.prog 3 #[.int .u8 (c.toNat : Int)] w fun e w' => e = .returned (.bool true) ∧ Below w.heap.size w w' := by
  have hcv := one_conv c w
  obtain ⟨wb, hwb, HB⟩ : ∃ wb, wb = w.alloc (.cells #[.int .u8 (c.toNat : Int)] 5) ∧ Aside0 (Below w.heap.size w wb) := ⟨_, rfl, ⟨below_alloc (Below.refl _ _) _⟩⟩
  obtain ⟨wt, hwt, HBt⟩ := boxT wb 3 (one c) ⟨#[]⟩
  have hsz : wb.heap.size = w.heap.size + 1 := by rw [hwb]; simp
  have HX : Aside0 (BoxedT wt (w.heap.size + 1) 3 (one c) ⟨#[]⟩) := ⟨by rw [hwt, ← hsz]; exact BoxedT.new wb _ _ _ _⟩
  have HB0 : Aside0 (Below w.heap.size w wt) := ⟨HB.out.trans (HBt.out.mono HB.out.size)⟩
  have HT0 := Aside0.mk (hT.below HB0.out)
  have HW : Aside0 ((w.alloc (.cells #[.int .u8 (c.toNat : Int)] 5)).alloc (.cells #[.int .i64 3, .string (one c), .string ⟨#[]⟩] 24) = wt) := ⟨by rw [hwt, hwb]⟩
  have CK := Aside0.mk known_any
  have hs1 : (one c).size = 1 := rfl
  obtain ⟨x0, x1, x2⟩ := HX.out
  have CI : Aside0 (∀ W, Tabs W → Calls Tryd.prog 10 #[.agg #[.int .i64 3, .string (one c), .string ⟨#[]⟩]] W fun e w' => e = .returned (.bool true) ∧ Below W.heap.size W w') := ⟨fun W h => by
    have := is_any ⟨3, one c, ⟨#[]⟩⟩ W (by show 1 ≤ 1000; decide) (by show 0 ≤ 1000; decide) h
    rwa [hi] at this⟩
  have CS : Aside0 (∀ W, Calls Tryd.prog 12 #[.agg #[.int .i64 3, .string (one c), .string ⟨#[]⟩]] W fun e w' => e = .returned (.string q) ∧ Below W.heap.size W w') := ⟨fun W => by
    have := show_any ⟨3, one c, ⟨#[]⟩⟩ W (by show 1 ≤ 1000; decide) (by show 0 ≤ 1000; decide)
    rwa [show showS ⟨3, one c, ⟨#[]⟩⟩ = q from hq] at this⟩
  have CR : Aside0 (∀ W, Tabs W → Calls Tryd.prog 13 #[.string q] W fun e w' => e = .returned (.tuple #[.agg #[.int .i64 3, .string (one c), .string ⟨#[]⟩], .bool true]) ∧ Below W.heap.size W w') := ⟨fun W h => refTerm_any 3 (one c) ⟨#[]⟩ q W hi hq h⟩
  have heq : ∀ W : World, (Op.equalIn 10000 24 (.agg #[.int .i64 3, .string (one c), .string ⟨#[]⟩]) (.agg #[.int .i64 3, .string (one c), .string ⟨#[]⟩])).run Tryd.prog W = .ok true W := fun W => by
    have := term_eq W ⟨3, one c, ⟨#[]⟩⟩ ⟨3, one c, ⟨#[]⟩⟩
    simpa using this
  have HEQ := Aside0.mk heq
  have HQB := Aside0.mk hqb
  have g3 : (c.toNat : Int) < 128 := by omega
  clear hwb hwt hsz hT hi hq heq hqb
  go_enter Tryd.func3, Tryd.ntmps3
  go_upto_region 5 with (fail)
  rw [HW.out]
  clear hcv
  have g5 := g4.out
  go_upto_region 9 with (
    (go_at_call 12; (with_reducible refine (CS.out _).mono ?_); rintro e w1 ⟨rfl, hb⟩; have HB1 := Aside0.mk (below_then HB0.out HB0.out.size hb); have HT1 := Aside0.mk (HT0.out.below hb); have HX1 := Aside0.mk (HX.out.below hb); clear hb))
  clear x0 x1 x2
  go_upto_region 10 with (
    (go_at_call 13; (with_reducible refine (CR.out _ HT1.out).mono ?_); rintro e w2 ⟨rfl, hb⟩; have HB2 := Aside0.mk (below_then HB1.out HB1.out.size hb); have HT2 := Aside0.mk (HT1.out.below hb); have HX2 := Aside0.mk (HX1.out.below hb); clear hb))
  obtain ⟨wu, hwu, HU⟩ := boxT w2 3 (one c) ⟨#[]⟩
  rw [← hwu]
  have HB3 := Aside0.mk (below_then HB2.out HB2.out.size HU.out)
  have HT3 := Aside0.mk (HT2.out.below HU.out)
  have HX3 := Aside0.mk (HX2.out.below HU.out)
  have HY3 : Aside0 (BoxedT wu w2.heap.size 3 (one c) ⟨#[]⟩) := ⟨by rw [hwu]; exact BoxedT.new w2 _ _ _ _⟩
  clear hwu
  obtain ⟨x0, x1, x2⟩ := HX3.out
  have heq := HEQ.out
  have hqb := HQB.out
  go_wp2_with (first
    | (go_at_call 10; (with_reducible refine (CI.out _ HT3.out).mono ?_); rintro e w4 ⟨rfl, hb⟩; have HB4 := Aside0.mk (below_then HB3.out HB3.out.size hb); have HT4 := Aside0.mk (HT3.out.below hb); obtain ⟨y0, y1, y2⟩ := HX3.out.below hb; obtain ⟨v0, v1, v2⟩ := HY3.out.below hb; clear hb)
    | (go_at_call 11; (with_reducible refine (CK.out _ HT4.out).mono ?_); rintro e w5 ⟨rfl, hb⟩; have HB5 := Aside0.mk (below_then HB4.out HB4.out.size hb); clear hb))
  go_ret
  exact ⟨ret_b (by first | rfl | (simp; done)), HB5.out⟩
theorem escapes_law (c : Int) (w : World) (hwf : (Lit.int .u8 c).wf = true) (hT : Tabs w) : Calls Tryd.prog 3 #[.int .u8 c] w fun e w' => e = .returned (.bool true) ∧ Below w.heap.size w w' := by
  have hc : 0 ≤ c ∧ c < 256 := by
    simp [Lit.wf, IntKind.min, IntKind.max, IntKind.signed, IntKind.bits] at hwf
    omega
  obtain ⟨n, rfl⟩ : ∃ n : Nat, c = (n : Int) := ⟨c.toNat, by omega⟩
  have hn : n < 256 := by omega
  obtain ⟨b, hb⟩ : ∃ b : UInt8, b = UInt8.ofNat n := ⟨_, rfl⟩
  have hbn : b.toNat = n := by rw [hb]; simp; omega
  rw [← hbn]
  by_cases h1 : 128 ≤ n
  · exact escapes_high b w hT (by omega) (by rw [hb]; exact one_high ⟨n, hn⟩ h1)
  · have hlow := one_low ⟨n, by omega⟩
    simp only at hlow
    rw [← hb] at hlow
    cases hm : mustB n with
    | false =>
      have hp : 32 ≤ n ∧ n ≠ 127 ∧ n ≠ 34 ∧ n ≠ 92 := by unfold mustB at hm; simp at hm; omega
      refine escapes_plain b w hT _ rfl ?_ (by omega) (by omega) (by rw [bne_iff_ne]; omega) (by rw [bne_iff_ne]; omega) hlow.1
      have hqb : qByte b = [b] := by unfold qByte; rw [hbn, hm]; simp
      show (⟨#[34]⟩ : ByteArray) ++ ⟨[b].toArray⟩ ++ ⟨[34].toArray⟩ = ⟨(34 :: (qL [b] ++ [34])).toArray⟩
      rw [show qL [b] = [b] by unfold qL; simp [hqb]]
      exact ba_quote [b]
    | true =>
      have hmu := one_must ⟨n, by omega⟩ hm
      simp only at hmu
      rw [← hb] at hmu
      obtain ⟨q, hq⟩ : ∃ q, showS ⟨3, one b, ⟨#[]⟩⟩ = q := ⟨_, rfl⟩
      rw [hq] at hmu
      have hq1 : 1 < q.size := by omega
      have hqb : q[1].toNat = 92 := by
        rw [← hmu.2]
        congr 1
        exact (getElem!_pos q.data 1 hq1).symm
      rcases must_cases hm with h | h | h | h | h | h | h | h | h | h | h | h | h | h | h | h | h | h | h | h | h | h | h | h | h | h | h | h | h | h | h | h | h | h | h
      all_goals first
        | exact escapes_ctl b w hT q hq (by omega) hq1 hqb (by omega) hlow.1
        | exact escapes_del b w hT q hq (by omega) hq1 hqb (by omega) (by omega) (by omega) hlow.1
        | exact escapes_quo b w hT q hq (by omega) hq1 hqb (by omega) (by omega) ⟨by rw [hbn, h]; rfl⟩ hlow.1
        | exact escapes_bsl b w hT q hq (by omega) hq1 hqb (by omega) (by omega) (by rw [hbn, h]; rfl) ⟨by rw [hbn, h]; rfl⟩ hlow.1
end Go.Proofs.YtmenjcjpihpjjaaDoor.Tm
