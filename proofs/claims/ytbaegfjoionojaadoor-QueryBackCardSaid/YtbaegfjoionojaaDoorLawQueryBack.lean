/- The law QueryBack: a path that may be, as a text, is read as it was, if it is not too long or too deep. -/
import Derived.Test.YtbaegfjoionojaaDoorQyO
import Derived.Test.YtbaegfjoionojaaDoorQyX
import Derived.Test.YtbaegfjoionojaaDoorQrG
import Derived.Test.YtbaegfjoionojaaDoorQrJ
import Derived.Test.YtbaegfjoionojaaDoorQyS
import Derived.Test.YtbaegfjoionojaaDoorQyN
set_option linter.unusedSimpArgs false
set_option linter.unusedVariables false
namespace Go.Proofs.YtbaegfjoionojaaDoor.Qy
open Go Go.RowKit Go.Proofs.YtbaegfjoionojaaDoor.Tm Go.Proofs.YtbaegfjoionojaaDoorW.PrintWords

set_option maxRecDepth 100000 in
set_option maxHeartbeats 8000000 in
theorem qback_big (p : Pth) (hbig : bigP p 0 = true) (w : World) (k : Int) (t : ByteArray) (A : Option Addr) (n c : Nat) (B : Option Addr) (m e : Nat) (hp : PathAt w anyB p [.int .i64 k, .string t, .slice A n c, .slice B m e]) (hT : Tabs w) :
    Calls Tryd.prog 3 #[.agg #[.int .i64 k, .string t, .slice A n c, .slice B m e]] w fun e w' => e = .returned (.bool true) ∧ Below w.heap.size w w' := by
  obtain ⟨w0, hw0, HB0, HN0⟩ := boxP w k t A n c B m e
  have HHW : Aside0 (w.alloc (.cells #[.int .i64 k, .string t, .slice A n c, .slice B m e] 25) = w0) := ⟨hw0.symm⟩
  have HP0 := Aside0.mk (PathAt.below hp HB0.out)
  have HT0 := Aside0.mk (hT.below HB0.out)
  clear hw0 hp hT
  have CB : Aside0 (∀ W, PathAt W anyB p [.int .i64 k, .string t, .slice A n c, .slice B m e] → Calls Tryd.prog 23 #[.agg #[.int .i64 k, .string t, .slice A n c, .slice B m e], .int .i64 0] W fun e w' => e = .returned (.bool true) ∧ Below W.heap.size W w') := ⟨fun W hW => by
    have := big_any p 0 (by decide) W anyB k t A n c B m e hW
    rw [hbig] at this
    exact this⟩
  go_enter Tryd.func3, Tryd.ntmps3
  go_upto_region 1 with (fail)
  rw [HHW.out]
  have q0 := blk_cell HN0.out 0; have q1 := blk_cell HN0.out 1; have q2 := blk_cell HN0.out 2; have q3 := blk_cell HN0.out 3; simp at q0 q1 q2 q3
  go_wp2_with (go_at_call 23; (with_reducible refine (CB.out _ HP0.out).mono ?_); rintro e w1 ⟨rfl, hb⟩; have HB1 := Aside0.mk (below_then HB0.out HB0.out.size hb); have HP1 := Aside0.mk (PathAt.below HP0.out hb); have HT1 := Aside0.mk (HT0.out.below hb); have HN1 := Aside0.mk (blk_below HN0.out hb); clear q0 q1 q2 q3; have q0 := blk_cell HN1.out 0; have q1 := blk_cell HN1.out 1; have q2 := blk_cell HN1.out 2; have q3 := blk_cell HN1.out 3; simp at q0 q1 q2 q3; clear hb)
  go_ret
  exact ⟨rfl, HB1.out⟩
set_option maxRecDepth 100000 in
set_option maxHeartbeats 8000000 in
theorem qback_not (p : Pth) (hbig : bigP p 0 = false) (hi : isP p = false) (w : World) (k : Int) (t : ByteArray) (A : Option Addr) (n c : Nat) (B : Option Addr) (m e : Nat) (hp : PathAt w anyB p [.int .i64 k, .string t, .slice A n c, .slice B m e]) (hT : Tabs w) :
    Calls Tryd.prog 3 #[.agg #[.int .i64 k, .string t, .slice A n c, .slice B m e]] w fun e w' => e = .returned (.bool true) ∧ Below w.heap.size w w' := by
  obtain ⟨w0, hw0, HB0, HN0⟩ := boxP w k t A n c B m e
  have HHW : Aside0 (w.alloc (.cells #[.int .i64 k, .string t, .slice A n c, .slice B m e] 25) = w0) := ⟨hw0.symm⟩
  have HP0 := Aside0.mk (PathAt.below hp HB0.out)
  have HT0 := Aside0.mk (hT.below HB0.out)
  clear hw0 hp hT
  have CB : Aside0 (∀ W, PathAt W anyB p [.int .i64 k, .string t, .slice A n c, .slice B m e] → Calls Tryd.prog 23 #[.agg #[.int .i64 k, .string t, .slice A n c, .slice B m e], .int .i64 0] W fun e w' => e = .returned (.bool false) ∧ Below W.heap.size W w') := ⟨fun W hW => by
    have := big_any p 0 (by decide) W anyB k t A n c B m e hW
    rw [hbig] at this
    exact this⟩
  have CI : Aside0 (∀ W, PathAt W anyB p [.int .i64 k, .string t, .slice A n c, .slice B m e] → Tabs W → Calls Tryd.prog 24 #[.agg #[.int .i64 k, .string t, .slice A n c, .slice B m e]] W fun e w' => e = .returned (.bool false) ∧ Below W.heap.size W w') := ⟨fun W hW h => by
    have := refIs_path p hbig W anyB k t A n c B m e hW h
    rwa [hi] at this⟩
  go_enter Tryd.func3, Tryd.ntmps3
  go_upto_region 1 with (fail)
  rw [HHW.out]
  have q0 := blk_cell HN0.out 0; have q1 := blk_cell HN0.out 1; have q2 := blk_cell HN0.out 2; have q3 := blk_cell HN0.out 3; simp at q0 q1 q2 q3
  go_wp2_with (first
    | (go_at_call 23; (with_reducible refine (CB.out _ HP0.out).mono ?_); rintro e w1 ⟨rfl, hb⟩; have HB1 := Aside0.mk (below_then HB0.out HB0.out.size hb); have HP1 := Aside0.mk (PathAt.below HP0.out hb); have HT1 := Aside0.mk (HT0.out.below hb); have HN1 := Aside0.mk (blk_below HN0.out hb); clear q0 q1 q2 q3; have q0 := blk_cell HN1.out 0; have q1 := blk_cell HN1.out 1; have q2 := blk_cell HN1.out 2; have q3 := blk_cell HN1.out 3; simp at q0 q1 q2 q3; clear hb)
    | (go_at_call 24; (with_reducible refine (CI.out _ HP1.out HT1.out).mono ?_); rintro e w2 ⟨rfl, hb⟩; have HB2 := Aside0.mk (below_then HB1.out HB1.out.size hb); have HP2 := Aside0.mk (PathAt.below HP1.out hb); have HT2 := Aside0.mk (HT1.out.below hb); have HN2 := Aside0.mk (blk_below HN1.out hb); clear q0 q1 q2 q3; have q0 := blk_cell HN2.out 0; have q1 := blk_cell HN2.out 1; have q2 := blk_cell HN2.out 2; have q3 := blk_cell HN2.out 3; simp at q0 q1 q2 q3; clear hb))
  go_ret
  exact ⟨rfl, HB2.out⟩
set_option maxRecDepth 100000 in
set_option maxHeartbeats 8000000 in
theorem qback_no3 (p : Pth) (hbig : bigP p 0 = false) (hi : isP p = true) (p2 : Pth) (nn : Nat) (hr : readS (showB p) = (p2, nn, 3)) (w : World) (k : Int) (t : ByteArray) (A : Option Addr) (n c : Nat) (B : Option Addr) (m e : Nat) (hp : PathAt w anyB p [.int .i64 k, .string t, .slice A n c, .slice B m e]) (hT : Tabs w) :
    Calls Tryd.prog 3 #[.agg #[.int .i64 k, .string t, .slice A n c, .slice B m e]] w fun e w' => e = .returned (.bool true) ∧ Below w.heap.size w w' := by
  obtain ⟨w0, hw0, HB0, HN0⟩ := boxP w k t A n c B m e
  have HHW : Aside0 (w.alloc (.cells #[.int .i64 k, .string t, .slice A n c, .slice B m e] 25) = w0) := ⟨hw0.symm⟩
  have HP0 := Aside0.mk (PathAt.below hp HB0.out)
  have HT0 := Aside0.mk (hT.below HB0.out)
  clear hw0 hp hT
  have CB : Aside0 (∀ W, PathAt W anyB p [.int .i64 k, .string t, .slice A n c, .slice B m e] → Calls Tryd.prog 23 #[.agg #[.int .i64 k, .string t, .slice A n c, .slice B m e], .int .i64 0] W fun e w' => e = .returned (.bool false) ∧ Below W.heap.size W w') := ⟨fun W hW => by
    have := big_any p 0 (by decide) W anyB k t A n c B m e hW
    rw [hbig] at this
    exact this⟩
  have CI : Aside0 (∀ W, PathAt W anyB p [.int .i64 k, .string t, .slice A n c, .slice B m e] → Tabs W → Calls Tryd.prog 24 #[.agg #[.int .i64 k, .string t, .slice A n c, .slice B m e]] W fun e w' => e = .returned (.bool true) ∧ Below W.heap.size W w') := ⟨fun W hW h => by
    have := refIs_path p hbig W anyB k t A n c B m e hW h
    rwa [hi] at this⟩
  obtain ⟨c0, hc0, h30, hsz⟩ := may_shown hi
  have CS := Aside0.mk (show_any p 0 c0 hc0 (by omega))
  obtain ⟨x, hx⟩ : ∃ x, showB p = x := ⟨_, rfl⟩
  rw [hx] at CS hsz hr
  have g4 : (x.size : Int) ≤ 9000 := by omega
  have CK := Aside0.mk known_any
  have C1 := Aside0.mk (fun W (h : Tabs W) => read_any x W (by omega) h)
  have C2 := Aside0.mk (fun W (h : Tabs W) => Qr.read_any x W (by omega) h)
  rw [hr] at C1 C2
  have CF := Aside0.mk (refSame_any p p)
  rw [same_yes rfl] at CF
  clear hx hr hc0 hi hbig h30
  go_enter Tryd.func3, Tryd.ntmps3
  go_upto_region 1 with (fail)
  rw [HHW.out]
  have q0 := blk_cell HN0.out 0; have q1 := blk_cell HN0.out 1; have q2 := blk_cell HN0.out 2; have q3 := blk_cell HN0.out 3; simp at q0 q1 q2 q3
  go_upto_region 4 with (first
    | (go_at_call 23; (with_reducible refine (CB.out _ HP0.out).mono ?_); rintro e w1 ⟨rfl, hb⟩; have HB1 := Aside0.mk (below_then HB0.out HB0.out.size hb); have HP1 := Aside0.mk (PathAt.below HP0.out hb); have HT1 := Aside0.mk (HT0.out.below hb); have HN1 := Aside0.mk (blk_below HN0.out hb); clear q0 q1 q2 q3; have q0 := blk_cell HN1.out 0; have q1 := blk_cell HN1.out 1; have q2 := blk_cell HN1.out 2; have q3 := blk_cell HN1.out 3; simp at q0 q1 q2 q3; clear hb)
    | (go_at_call 24; (with_reducible refine (CI.out _ HP1.out HT1.out).mono ?_); rintro e w2 ⟨rfl, hb⟩; have HB2 := Aside0.mk (below_then HB1.out HB1.out.size hb); have HP2 := Aside0.mk (PathAt.below HP1.out hb); have HT2 := Aside0.mk (HT1.out.below hb); have HN2 := Aside0.mk (blk_below HN1.out hb); clear q0 q1 q2 q3; have q0 := blk_cell HN2.out 0; have q1 := blk_cell HN2.out 1; have q2 := blk_cell HN2.out 2; have q3 := blk_cell HN2.out 3; simp at q0 q1 q2 q3; clear hb)
    | (go_at_call 25; (refine (CS.out _ _ _ _ _ _ _ _ _ _ HP2.out).mono ?_); rintro e w3 ⟨rfl, hb⟩; have HB3 := Aside0.mk (below_then HB2.out HB2.out.size hb); have HP3 := Aside0.mk (PathAt.below HP2.out hb); have HT3 := Aside0.mk (HT2.out.below hb); have HN3 := Aside0.mk (blk_below HN2.out hb); clear q0 q1 q2 q3; have q0 := blk_cell HN3.out 0; have q1 := blk_cell HN3.out 1; have q2 := blk_cell HN3.out 2; have q3 := blk_cell HN3.out 3; simp at q0 q1 q2 q3; clear hb))
  go_upto_region 5 with (go_at_call 26; (with_reducible refine (C1.out _ HT3.out).mono ?_); rintro e w4 ⟨k1, t1, A1, n1, c1, B1, m1, d1, rfl, hb, hp⟩; have HB4 := Aside0.mk (below_then HB3.out HB3.out.size hb); have HP4 := Aside0.mk (PathAt.below HP3.out hb); have HQ4 := Aside0.mk hp; have HT4 := Aside0.mk (HT3.out.below hb); have HN4 := Aside0.mk (blk_below HN3.out hb); clear q0 q1 q2 q3; clear hb hp)
  obtain ⟨w5, hw5, HA5, HM5⟩ := boxP w4 k1 t1 A1 n1 c1 B1 m1 d1
  rw [← hw5]
  have HB5 := Aside0.mk (below_then HB4.out HB4.out.size HA5.out)
  have HP5 := Aside0.mk (PathAt.below HP4.out HA5.out)
  have HQ5 := Aside0.mk (PathAt.below HQ4.out HA5.out)
  have HT5 := Aside0.mk (HT4.out.below HA5.out)
  have HN5 := Aside0.mk (blk_below HN4.out HA5.out)
  clear hw5
  have q0 := blk_cell HN5.out 0; have q1 := blk_cell HN5.out 1; have q2 := blk_cell HN5.out 2; have q3 := blk_cell HN5.out 3; simp at q0 q1 q2 q3
  go_upto_region 7 with (go_at_call 27; (with_reducible refine (C2.out _ HT5.out).mono ?_); rintro e w6 ⟨k2, t2, A2, n2, c2, B2, m2, d2, rfl, hb, hp⟩; have HB6 := Aside0.mk (below_then HB5.out HB5.out.size hb); have HT6 := Aside0.mk (HT5.out.below hb); clear hb hp)
  obtain ⟨w7, hw7, HA7, HN7⟩ := boxP w6 k2 t2 A2 n2 c2 B2 m2 d2
  rw [← hw7]
  have HB7 := Aside0.mk (below_then HB6.out HB6.out.size HA7.out)
  have HT7 := Aside0.mk (HT6.out.below HA7.out)
  clear hw7
  go_wp2_with (go_at_call 28; (with_reducible refine (CK.out _ HT7.out).mono ?_); rintro e w8 ⟨rfl, hb⟩; have HB8 := Aside0.mk (below_then HB7.out HB7.out.size hb); clear hb)
  go_ret
  exact ⟨rfl, HB8.out⟩
set_option maxRecDepth 100000 in
set_option maxHeartbeats 8000000 in
theorem qback_no4 (p : Pth) (hbig : bigP p 0 = false) (hi : isP p = true) (p2 : Pth) (nn : Nat) (hr : readS (showB p) = (p2, nn, 4)) (w : World) (k : Int) (t : ByteArray) (A : Option Addr) (n c : Nat) (B : Option Addr) (m e : Nat) (hp : PathAt w anyB p [.int .i64 k, .string t, .slice A n c, .slice B m e]) (hT : Tabs w) :
    Calls Tryd.prog 3 #[.agg #[.int .i64 k, .string t, .slice A n c, .slice B m e]] w fun e w' => e = .returned (.bool true) ∧ Below w.heap.size w w' := by
  obtain ⟨w0, hw0, HB0, HN0⟩ := boxP w k t A n c B m e
  have HHW : Aside0 (w.alloc (.cells #[.int .i64 k, .string t, .slice A n c, .slice B m e] 25) = w0) := ⟨hw0.symm⟩
  have HP0 := Aside0.mk (PathAt.below hp HB0.out)
  have HT0 := Aside0.mk (hT.below HB0.out)
  clear hw0 hp hT
  have CB : Aside0 (∀ W, PathAt W anyB p [.int .i64 k, .string t, .slice A n c, .slice B m e] → Calls Tryd.prog 23 #[.agg #[.int .i64 k, .string t, .slice A n c, .slice B m e], .int .i64 0] W fun e w' => e = .returned (.bool false) ∧ Below W.heap.size W w') := ⟨fun W hW => by
    have := big_any p 0 (by decide) W anyB k t A n c B m e hW
    rw [hbig] at this
    exact this⟩
  have CI : Aside0 (∀ W, PathAt W anyB p [.int .i64 k, .string t, .slice A n c, .slice B m e] → Tabs W → Calls Tryd.prog 24 #[.agg #[.int .i64 k, .string t, .slice A n c, .slice B m e]] W fun e w' => e = .returned (.bool true) ∧ Below W.heap.size W w') := ⟨fun W hW h => by
    have := refIs_path p hbig W anyB k t A n c B m e hW h
    rwa [hi] at this⟩
  obtain ⟨c0, hc0, h30, hsz⟩ := may_shown hi
  have CS := Aside0.mk (show_any p 0 c0 hc0 (by omega))
  obtain ⟨x, hx⟩ : ∃ x, showB p = x := ⟨_, rfl⟩
  rw [hx] at CS hsz hr
  have g4 : (x.size : Int) ≤ 9000 := by omega
  have CK := Aside0.mk known_any
  have C1 := Aside0.mk (fun W (h : Tabs W) => read_any x W (by omega) h)
  have C2 := Aside0.mk (fun W (h : Tabs W) => Qr.read_any x W (by omega) h)
  rw [hr] at C1 C2
  have CF := Aside0.mk (refSame_any p p)
  rw [same_yes rfl] at CF
  clear hx hr hc0 hi hbig h30
  go_enter Tryd.func3, Tryd.ntmps3
  go_upto_region 1 with (fail)
  rw [HHW.out]
  have q0 := blk_cell HN0.out 0; have q1 := blk_cell HN0.out 1; have q2 := blk_cell HN0.out 2; have q3 := blk_cell HN0.out 3; simp at q0 q1 q2 q3
  go_upto_region 4 with (first
    | (go_at_call 23; (with_reducible refine (CB.out _ HP0.out).mono ?_); rintro e w1 ⟨rfl, hb⟩; have HB1 := Aside0.mk (below_then HB0.out HB0.out.size hb); have HP1 := Aside0.mk (PathAt.below HP0.out hb); have HT1 := Aside0.mk (HT0.out.below hb); have HN1 := Aside0.mk (blk_below HN0.out hb); clear q0 q1 q2 q3; have q0 := blk_cell HN1.out 0; have q1 := blk_cell HN1.out 1; have q2 := blk_cell HN1.out 2; have q3 := blk_cell HN1.out 3; simp at q0 q1 q2 q3; clear hb)
    | (go_at_call 24; (with_reducible refine (CI.out _ HP1.out HT1.out).mono ?_); rintro e w2 ⟨rfl, hb⟩; have HB2 := Aside0.mk (below_then HB1.out HB1.out.size hb); have HP2 := Aside0.mk (PathAt.below HP1.out hb); have HT2 := Aside0.mk (HT1.out.below hb); have HN2 := Aside0.mk (blk_below HN1.out hb); clear q0 q1 q2 q3; have q0 := blk_cell HN2.out 0; have q1 := blk_cell HN2.out 1; have q2 := blk_cell HN2.out 2; have q3 := blk_cell HN2.out 3; simp at q0 q1 q2 q3; clear hb)
    | (go_at_call 25; (refine (CS.out _ _ _ _ _ _ _ _ _ _ HP2.out).mono ?_); rintro e w3 ⟨rfl, hb⟩; have HB3 := Aside0.mk (below_then HB2.out HB2.out.size hb); have HP3 := Aside0.mk (PathAt.below HP2.out hb); have HT3 := Aside0.mk (HT2.out.below hb); have HN3 := Aside0.mk (blk_below HN2.out hb); clear q0 q1 q2 q3; have q0 := blk_cell HN3.out 0; have q1 := blk_cell HN3.out 1; have q2 := blk_cell HN3.out 2; have q3 := blk_cell HN3.out 3; simp at q0 q1 q2 q3; clear hb))
  go_upto_region 5 with (go_at_call 26; (with_reducible refine (C1.out _ HT3.out).mono ?_); rintro e w4 ⟨k1, t1, A1, n1, c1, B1, m1, d1, rfl, hb, hp⟩; have HB4 := Aside0.mk (below_then HB3.out HB3.out.size hb); have HP4 := Aside0.mk (PathAt.below HP3.out hb); have HQ4 := Aside0.mk hp; have HT4 := Aside0.mk (HT3.out.below hb); have HN4 := Aside0.mk (blk_below HN3.out hb); clear q0 q1 q2 q3; clear hb hp)
  obtain ⟨w5, hw5, HA5, HM5⟩ := boxP w4 k1 t1 A1 n1 c1 B1 m1 d1
  rw [← hw5]
  have HB5 := Aside0.mk (below_then HB4.out HB4.out.size HA5.out)
  have HP5 := Aside0.mk (PathAt.below HP4.out HA5.out)
  have HQ5 := Aside0.mk (PathAt.below HQ4.out HA5.out)
  have HT5 := Aside0.mk (HT4.out.below HA5.out)
  have HN5 := Aside0.mk (blk_below HN4.out HA5.out)
  clear hw5
  have q0 := blk_cell HN5.out 0; have q1 := blk_cell HN5.out 1; have q2 := blk_cell HN5.out 2; have q3 := blk_cell HN5.out 3; simp at q0 q1 q2 q3
  go_upto_region 7 with (go_at_call 27; (with_reducible refine (C2.out _ HT5.out).mono ?_); rintro e w6 ⟨k2, t2, A2, n2, c2, B2, m2, d2, rfl, hb, hp⟩; have HB6 := Aside0.mk (below_then HB5.out HB5.out.size hb); have HT6 := Aside0.mk (HT5.out.below hb); clear hb hp)
  obtain ⟨w7, hw7, HA7, HN7⟩ := boxP w6 k2 t2 A2 n2 c2 B2 m2 d2
  rw [← hw7]
  have HB7 := Aside0.mk (below_then HB6.out HB6.out.size HA7.out)
  have HT7 := Aside0.mk (HT6.out.below HA7.out)
  clear hw7
  go_wp2_with (go_at_call 28; (with_reducible refine (CK.out _ HT7.out).mono ?_); rintro e w8 ⟨rfl, hb⟩; have HB8 := Aside0.mk (below_then HB7.out HB7.out.size hb); clear hb)
  go_ret
  exact ⟨rfl, HB8.out⟩
set_option maxRecDepth 100000 in
set_option maxHeartbeats 8000000 in
theorem qback_ok (p : Pth) (hbig : bigP p 0 = false) (hi : isP p = true) (hr : readS (showB p) = (p, (showB p).size, 0)) (w : World) (k : Int) (t : ByteArray) (A : Option Addr) (n c : Nat) (B : Option Addr) (m e : Nat) (hp : PathAt w anyB p [.int .i64 k, .string t, .slice A n c, .slice B m e]) (hT : Tabs w) :
    Calls Tryd.prog 3 #[.agg #[.int .i64 k, .string t, .slice A n c, .slice B m e]] w fun e w' => e = .returned (.bool true) ∧ Below w.heap.size w w' := by
  obtain ⟨w0, hw0, HB0, HN0⟩ := boxP w k t A n c B m e
  have HHW : Aside0 (w.alloc (.cells #[.int .i64 k, .string t, .slice A n c, .slice B m e] 25) = w0) := ⟨hw0.symm⟩
  have HP0 := Aside0.mk (PathAt.below hp HB0.out)
  have HT0 := Aside0.mk (hT.below HB0.out)
  clear hw0 hp hT
  have CB : Aside0 (∀ W, PathAt W anyB p [.int .i64 k, .string t, .slice A n c, .slice B m e] → Calls Tryd.prog 23 #[.agg #[.int .i64 k, .string t, .slice A n c, .slice B m e], .int .i64 0] W fun e w' => e = .returned (.bool false) ∧ Below W.heap.size W w') := ⟨fun W hW => by
    have := big_any p 0 (by decide) W anyB k t A n c B m e hW
    rw [hbig] at this
    exact this⟩
  have CI : Aside0 (∀ W, PathAt W anyB p [.int .i64 k, .string t, .slice A n c, .slice B m e] → Tabs W → Calls Tryd.prog 24 #[.agg #[.int .i64 k, .string t, .slice A n c, .slice B m e]] W fun e w' => e = .returned (.bool true) ∧ Below W.heap.size W w') := ⟨fun W hW h => by
    have := refIs_path p hbig W anyB k t A n c B m e hW h
    rwa [hi] at this⟩
  obtain ⟨c0, hc0, h30, hsz⟩ := may_shown hi
  have CS := Aside0.mk (show_any p 0 c0 hc0 (by omega))
  obtain ⟨x, hx⟩ : ∃ x, showB p = x := ⟨_, rfl⟩
  rw [hx] at CS hsz hr
  have g4 : (x.size : Int) ≤ 9000 := by omega
  have CK := Aside0.mk known_any
  have C1 := Aside0.mk (fun W (h : Tabs W) => read_any x W (by omega) h)
  have C2 := Aside0.mk (fun W (h : Tabs W) => Qr.read_any x W (by omega) h)
  rw [hr] at C1 C2
  have CF := Aside0.mk (refSame_any p p)
  rw [same_yes rfl] at CF
  clear hx hr hc0 hi hbig h30
  go_enter Tryd.func3, Tryd.ntmps3
  go_upto_region 1 with (fail)
  rw [HHW.out]
  have q0 := blk_cell HN0.out 0; have q1 := blk_cell HN0.out 1; have q2 := blk_cell HN0.out 2; have q3 := blk_cell HN0.out 3; simp at q0 q1 q2 q3
  go_upto_region 4 with (first
    | (go_at_call 23; (with_reducible refine (CB.out _ HP0.out).mono ?_); rintro e w1 ⟨rfl, hb⟩; have HB1 := Aside0.mk (below_then HB0.out HB0.out.size hb); have HP1 := Aside0.mk (PathAt.below HP0.out hb); have HT1 := Aside0.mk (HT0.out.below hb); have HN1 := Aside0.mk (blk_below HN0.out hb); clear q0 q1 q2 q3; have q0 := blk_cell HN1.out 0; have q1 := blk_cell HN1.out 1; have q2 := blk_cell HN1.out 2; have q3 := blk_cell HN1.out 3; simp at q0 q1 q2 q3; clear hb)
    | (go_at_call 24; (with_reducible refine (CI.out _ HP1.out HT1.out).mono ?_); rintro e w2 ⟨rfl, hb⟩; have HB2 := Aside0.mk (below_then HB1.out HB1.out.size hb); have HP2 := Aside0.mk (PathAt.below HP1.out hb); have HT2 := Aside0.mk (HT1.out.below hb); have HN2 := Aside0.mk (blk_below HN1.out hb); clear q0 q1 q2 q3; have q0 := blk_cell HN2.out 0; have q1 := blk_cell HN2.out 1; have q2 := blk_cell HN2.out 2; have q3 := blk_cell HN2.out 3; simp at q0 q1 q2 q3; clear hb)
    | (go_at_call 25; (refine (CS.out _ _ _ _ _ _ _ _ _ _ HP2.out).mono ?_); rintro e w3 ⟨rfl, hb⟩; have HB3 := Aside0.mk (below_then HB2.out HB2.out.size hb); have HP3 := Aside0.mk (PathAt.below HP2.out hb); have HT3 := Aside0.mk (HT2.out.below hb); have HN3 := Aside0.mk (blk_below HN2.out hb); clear q0 q1 q2 q3; have q0 := blk_cell HN3.out 0; have q1 := blk_cell HN3.out 1; have q2 := blk_cell HN3.out 2; have q3 := blk_cell HN3.out 3; simp at q0 q1 q2 q3; clear hb))
  go_upto_region 5 with (go_at_call 26; (with_reducible refine (C1.out _ HT3.out).mono ?_); rintro e w4 ⟨k1, t1, A1, n1, c1, B1, m1, d1, rfl, hb, hp⟩; have HB4 := Aside0.mk (below_then HB3.out HB3.out.size hb); have HP4 := Aside0.mk (PathAt.below HP3.out hb); have HQ4 := Aside0.mk hp; have HT4 := Aside0.mk (HT3.out.below hb); have HN4 := Aside0.mk (blk_below HN3.out hb); clear q0 q1 q2 q3; clear hb hp)
  obtain ⟨w5, hw5, HA5, HM5⟩ := boxP w4 k1 t1 A1 n1 c1 B1 m1 d1
  rw [← hw5]
  have HB5 := Aside0.mk (below_then HB4.out HB4.out.size HA5.out)
  have HP5 := Aside0.mk (PathAt.below HP4.out HA5.out)
  have HQ5 := Aside0.mk (PathAt.below HQ4.out HA5.out)
  have HT5 := Aside0.mk (HT4.out.below HA5.out)
  have HN5 := Aside0.mk (blk_below HN4.out HA5.out)
  clear hw5
  have q0 := blk_cell HN5.out 0; have q1 := blk_cell HN5.out 1; have q2 := blk_cell HN5.out 2; have q3 := blk_cell HN5.out 3; simp at q0 q1 q2 q3
  have qx0 := blk_cell HM5.out 0; have qx1 := blk_cell HM5.out 1; have qx2 := blk_cell HM5.out 2; have qx3 := blk_cell HM5.out 3; simp at qx0 qx1 qx2 qx3
  go_wp2_with (first
    | (go_at_call 29; refine (CF.out _ _ _ _ _ _ _ _ _ _ _ _ _ _ _ _ _ _ _ HP5.out HQ5.out).mono ?_; rintro e w6 ⟨rfl, hb⟩; have HB6 := Aside0.mk (below_then HB5.out HB5.out.size hb); have HT6 := Aside0.mk (HT5.out.below hb); clear hb)
    | (go_at_call 28; (with_reducible refine (CK.out _ HT6.out).mono ?_); rintro e w7 ⟨rfl, hb⟩; have HB7 := Aside0.mk (below_then HB6.out HB6.out.size hb); clear hb))
  go_ret
  exact ⟨rfl, HB7.out⟩
theorem back_law (p : Pth) (cs : List Value) (w : World) (hp : PathAt w anyB p cs) (hT : Tabs w) : Calls Tryd.prog 3 #[.agg cs.toArray] w fun e w' => e = .returned (.bool true) ∧ Below w.heap.size w w' := by
  obtain ⟨k, t, ts, ks⟩ := p
  obtain ⟨A, c, B, d, rfl, -⟩ := path_cells hp
  by_cases hb : bigP (.mk k t ts ks) 0 = true
  · exact qback_big _ hb w _ _ _ _ _ _ _ _ hp hT
  have hb := Bool.not_eq_true _ |>.mp hb
  cases hi : isP (.mk k t ts ks) with
  | false => exact qback_not _ hb hi w _ _ _ _ _ _ _ _ hp hT
  | true =>
    by_cases hs : 600 < (showB (.mk k t ts ks)).size
    · exact qback_no4 _ hb hi noP 0 (by unfold readS; rw [if_pos hs]) w _ _ _ _ _ _ _ _ hp hT
    · have hg := readS_good hs (show_good hi)
      cases hf : fitB (.mk k t ts ks) 5 with
      | false =>
        rw [hf, if_neg (by decide)] at hg
        obtain ⟨a, ha⟩ := hg
        exact qback_no3 _ hb hi _ _ ha w _ _ _ _ _ _ _ _ hp hT
      | true =>
        rw [hf, if_pos rfl] at hg
        exact qback_ok _ hb hi hg w _ _ _ _ _ _ _ _ hp hT
end Go.Proofs.YtbaegfjoionojaaDoor.Qy
