/- The law QueryCut: a path's text cut short, or with more behind it, is told as the document's. -/
import Derived.Test.YtbaegfjoionojaaDoorQyO
import Derived.Test.YtbaegfjoionojaaDoorQrG
import Derived.Test.YtbaegfjoionojaaDoorQrH
import Derived.Test.YtbaegfjoionojaaDoorQrJ
import Derived.Test.YtbaegfjoionojaaDoorQyN
set_option linter.unusedSimpArgs false
set_option linter.unusedVariables false
namespace Go.Proofs.YtbaegfjoionojaaDoor.Qy
open Go Go.RowKit Go.Proofs.YtbaegfjoionojaaDoor.Tm Go.Proofs.YtbaegfjoionojaaDoorW.PrintWords

theorem mask_lt (x : Int) : 0 ≤ bits .and .i64 x 1023 ∧ bits .and .i64 x 1023 ≤ 1023 := by
  have h : (BitVec.ofInt 64 x &&& BitVec.ofInt 64 1023).toNat ≤ 1023 := by
    rw [BitVec.toNat_and]; exact Nat.le_trans Nat.and_le_right (by decide)
  have e : bits .and .i64 x 1023 = ((BitVec.ofInt 64 x &&& BitVec.ofInt 64 1023).toNat : Int) := by
    unfold bits
    show IntKind.i64.wrap ((BitVec.ofInt 64 x &&& BitVec.ofInt 64 1023).toNat : Int) = _
    exact IntWalk.i64_in _ (by omega)
  rw [e]
  omega
theorem cut_at (x : Int) (n : Nat) : ∃ k : Nat, (bits .and .i64 x 1023).tmod ((n : Int) + 1) = (k : Int) ∧ k ≤ n := by
  obtain ⟨h1, h2⟩ := mask_lt x
  have e := Int.tmod_eq_emod_of_nonneg (a := bits .and .i64 x 1023) (b := (n : Int) + 1) h1
  have g1 := Int.emod_nonneg (bits .and .i64 x 1023) (show (n : Int) + 1 ≠ 0 by omega)
  have g2 := Int.emod_lt_of_pos (bits .and .i64 x 1023) (show (0 : Int) < (n : Int) + 1 by omega)
  exact ⟨((bits .and .i64 x 1023) % ((n : Int) + 1)).toNat, by rw [e]; omega, by omega⟩
/-- A path that may be, as a text, is not long. -/
theorem show_short {p : Pth} (h : isP p = true) : ∃ c0, countP p 0 = some c0 ∧ c0 ≤ 30 ∧ (showB p).size ≤ 9000 := by
  unfold isP at h
  split at h
  · cases h
  · rename_i n hn
    have h30 : n ≤ 30 := by simpa using h
    refine ⟨n, hn, h30, ?_⟩
    have := show_len p 0 n hn
    unfold showB
    rw [ba_size]
    omega
set_option maxRecDepth 100000 in
set_option maxHeartbeats 8000000 in
theorem cut_big (p : Pth) (cut : Int) (more : ByteArray) (hm1 : more.size ≤ 140737488351232) (hbig : bigP p 0 = true) (w : World) (k : Int) (t : ByteArray) (A : Option Addr) (n c : Nat) (B : Option Addr) (m e : Nat) (hp : PathAt w anyB p [.int .i64 k, .string t, .slice A n c, .slice B m e]) (hT : Tabs w) :
    Calls Tryd.prog 7 #[.agg #[.int .i64 k, .string t, .slice A n c, .slice B m e], .int .i64 cut, .string more] w fun e w' => e = .returned (.bool true) ∧ Below w.heap.size w w' := by
  obtain ⟨w0, hw0, HB0, HN0⟩ := boxP w k t A n c B m e
  have HHW : Aside0 (w.alloc (.cells #[.int .i64 k, .string t, .slice A n c, .slice B m e] 25) = w0) := ⟨hw0.symm⟩
  have HP0 := Aside0.mk (PathAt.below hp HB0.out)
  have HT0 := Aside0.mk (hT.below HB0.out)
  clear hw0 hp hT
  have CB : Aside0 (∀ W, PathAt W anyB p [.int .i64 k, .string t, .slice A n c, .slice B m e] → Calls Tryd.prog 23 #[.agg #[.int .i64 k, .string t, .slice A n c, .slice B m e], .int .i64 0] W fun e w' => e = .returned (.bool true) ∧ Below W.heap.size W w') := ⟨fun W hW => by
    have := big_any p 0 (by decide) W anyB k t A n c B m e hW
    rw [hbig] at this
    exact this⟩
  go_enter Tryd.func7, Tryd.ntmps7
  go_upto_region 1 with (fail)
  rw [HHW.out]
  have q0 := blk_cell HN0.out 0; have q1 := blk_cell HN0.out 1; have q2 := blk_cell HN0.out 2; have q3 := blk_cell HN0.out 3; simp at q0 q1 q2 q3
  go_wp2_with (go_at_call 23; (with_reducible refine (CB.out _ HP0.out).mono ?_); rintro e w1 ⟨rfl, hb⟩; have HB1 := Aside0.mk (below_then HB0.out HB0.out.size hb); have HP1 := Aside0.mk (PathAt.below HP0.out hb); have HT1 := Aside0.mk (HT0.out.below hb); have HN1 := Aside0.mk (blk_below HN0.out hb); clear q0 q1 q2 q3; have q0 := blk_cell HN1.out 0; have q1 := blk_cell HN1.out 1; have q2 := blk_cell HN1.out 2; have q3 := blk_cell HN1.out 3; simp at q0 q1 q2 q3; clear hb)
  go_ret
  exact ⟨rfl, HB1.out⟩
set_option maxRecDepth 100000 in
set_option maxHeartbeats 8000000 in
theorem cut_not (p : Pth) (cut : Int) (more : ByteArray) (hm1 : more.size ≤ 140737488351232) (hbig : bigP p 0 = false) (hi : isP p = false) (w : World) (k : Int) (t : ByteArray) (A : Option Addr) (n c : Nat) (B : Option Addr) (m e : Nat) (hp : PathAt w anyB p [.int .i64 k, .string t, .slice A n c, .slice B m e]) (hT : Tabs w) :
    Calls Tryd.prog 7 #[.agg #[.int .i64 k, .string t, .slice A n c, .slice B m e], .int .i64 cut, .string more] w fun e w' => e = .returned (.bool true) ∧ Below w.heap.size w w' := by
  obtain ⟨w0, hw0, HB0, HN0⟩ := boxP w k t A n c B m e
  have HHW : Aside0 (w.alloc (.cells #[.int .i64 k, .string t, .slice A n c, .slice B m e] 25) = w0) := ⟨hw0.symm⟩
  have HP0 := Aside0.mk (PathAt.below hp HB0.out)
  have HT0 := Aside0.mk (hT.below HB0.out)
  clear hw0 hp hT
  have CB : Aside0 (∀ W, PathAt W anyB p [.int .i64 k, .string t, .slice A n c, .slice B m e] → Calls Tryd.prog 23 #[.agg #[.int .i64 k, .string t, .slice A n c, .slice B m e], .int .i64 0] W fun e w' => e = .returned (.bool false) ∧ Below W.heap.size W w') := ⟨fun W hW => by
    have := big_any p 0 (by decide) W anyB k t A n c B m e hW
    rw [hbig] at this
    exact this⟩
  have CI : Aside0 (∀ W, PathAt W anyB p [.int .i64 k, .string t, .slice A n c, .slice B m e] → Tabs W → Calls Tryd.prog 24 #[.agg #[.int .i64 k, .string t, .slice A n c, .slice B m e]] W fun e w' => e = .returned (.bool false) ∧ Below W.heap.size W w') := ⟨fun W hW h => by
    have := refIs_path p hbig W anyB k t A n c B m e hW h
    rwa [hi] at this⟩
  go_enter Tryd.func7, Tryd.ntmps7
  go_upto_region 1 with (fail)
  rw [HHW.out]
  have q0 := blk_cell HN0.out 0; have q1 := blk_cell HN0.out 1; have q2 := blk_cell HN0.out 2; have q3 := blk_cell HN0.out 3; simp at q0 q1 q2 q3
  go_wp2_with (first
    | (go_at_call 23; (with_reducible refine (CB.out _ HP0.out).mono ?_); rintro e w1 ⟨rfl, hb⟩; have HB1 := Aside0.mk (below_then HB0.out HB0.out.size hb); have HP1 := Aside0.mk (PathAt.below HP0.out hb); have HT1 := Aside0.mk (HT0.out.below hb); have HN1 := Aside0.mk (blk_below HN0.out hb); clear q0 q1 q2 q3; have q0 := blk_cell HN1.out 0; have q1 := blk_cell HN1.out 1; have q2 := blk_cell HN1.out 2; have q3 := blk_cell HN1.out 3; simp at q0 q1 q2 q3; clear hb)
    | (go_at_call 24; (with_reducible refine (CI.out _ HP1.out HT1.out).mono ?_); rintro e w2 ⟨rfl, hb⟩; have HB2 := Aside0.mk (below_then HB1.out HB1.out.size hb); have HP2 := Aside0.mk (PathAt.below HP1.out hb); have HT2 := Aside0.mk (HT1.out.below hb); have HN2 := Aside0.mk (blk_below HN1.out hb); clear q0 q1 q2 q3; have q0 := blk_cell HN2.out 0; have q1 := blk_cell HN2.out 1; have q2 := blk_cell HN2.out 2; have q3 := blk_cell HN2.out 3; simp at q0 q1 q2 q3; clear hb))
  go_ret
  exact ⟨rfl, HB2.out⟩
set_option maxRecDepth 100000 in
set_option maxHeartbeats 8000000 in
theorem cut_more (p : Pth) (cut : Int) (more : ByteArray) (hm1 : more.size ≤ 140737488351232) (hbig : bigP p 0 = false) (hi : isP p = true) (hm : 20 < more.size) (w : World) (k : Int) (t : ByteArray) (A : Option Addr) (n c : Nat) (B : Option Addr) (m e : Nat) (hp : PathAt w anyB p [.int .i64 k, .string t, .slice A n c, .slice B m e]) (hT : Tabs w) :
    Calls Tryd.prog 7 #[.agg #[.int .i64 k, .string t, .slice A n c, .slice B m e], .int .i64 cut, .string more] w fun e w' => e = .returned (.bool true) ∧ Below w.heap.size w w' := by
  obtain ⟨w0, hw0, HB0, HN0⟩ := boxP w k t A n c B m e
  have HHW : Aside0 (w.alloc (.cells #[.int .i64 k, .string t, .slice A n c, .slice B m e] 25) = w0) := ⟨hw0.symm⟩
  have HP0 := Aside0.mk (PathAt.below hp HB0.out)
  have HT0 := Aside0.mk (hT.below HB0.out)
  clear hw0 hp hT
  have CB : Aside0 (∀ W, PathAt W anyB p [.int .i64 k, .string t, .slice A n c, .slice B m e] → Calls Tryd.prog 23 #[.agg #[.int .i64 k, .string t, .slice A n c, .slice B m e], .int .i64 0] W fun e w' => e = .returned (.bool false) ∧ Below W.heap.size W w') := ⟨fun W hW => by
    have := big_any p 0 (by decide) W anyB k t A n c B m e hW
    rw [hbig] at this
    exact this⟩
  have CI : Aside0 (∀ W, PathAt W anyB p [.int .i64 k, .string t, .slice A n c, .slice B m e] → Tabs W → Calls Tryd.prog 24 #[.agg #[.int .i64 k, .string t, .slice A n c, .slice B m e]] W fun e w' => e = .returned (.bool true) ∧ Below W.heap.size W w') := ⟨fun W hW h => by
    have := refIs_path p hbig W anyB k t A n c B m e hW h
    rwa [hi] at this⟩
  have g1 : decide ((20 : Int) < (more.size : Int)) = true := by rw [decide_eq_true_eq]; omega
  clear hm
  go_enter Tryd.func7, Tryd.ntmps7
  go_upto_region 1 with (fail)
  rw [HHW.out]
  have q0 := blk_cell HN0.out 0; have q1 := blk_cell HN0.out 1; have q2 := blk_cell HN0.out 2; have q3 := blk_cell HN0.out 3; simp at q0 q1 q2 q3
  go_wp2_with (first
    | (go_at_call 23; (with_reducible refine (CB.out _ HP0.out).mono ?_); rintro e w1 ⟨rfl, hb⟩; have HB1 := Aside0.mk (below_then HB0.out HB0.out.size hb); have HP1 := Aside0.mk (PathAt.below HP0.out hb); have HT1 := Aside0.mk (HT0.out.below hb); have HN1 := Aside0.mk (blk_below HN0.out hb); clear q0 q1 q2 q3; have q0 := blk_cell HN1.out 0; have q1 := blk_cell HN1.out 1; have q2 := blk_cell HN1.out 2; have q3 := blk_cell HN1.out 3; simp at q0 q1 q2 q3; clear hb)
    | (go_at_call 24; (with_reducible refine (CI.out _ HP1.out HT1.out).mono ?_); rintro e w2 ⟨rfl, hb⟩; have HB2 := Aside0.mk (below_then HB1.out HB1.out.size hb); have HP2 := Aside0.mk (PathAt.below HP1.out hb); have HT2 := Aside0.mk (HT1.out.below hb); have HN2 := Aside0.mk (blk_below HN1.out hb); clear q0 q1 q2 q3; have q0 := blk_cell HN2.out 0; have q1 := blk_cell HN2.out 1; have q2 := blk_cell HN2.out 2; have q3 := blk_cell HN2.out 3; simp at q0 q1 q2 q3; clear hb))
  go_ret
  exact ⟨rfl, HB2.out⟩
set_option maxRecDepth 100000 in
set_option maxHeartbeats 8000000 in
theorem cut_go (p : Pth) (cut : Int) (more : ByteArray) (hm1 : more.size ≤ 140737488351232) (hbig : bigP p 0 = false) (hi : isP p = true) (hm : more.size ≤ 20) (w : World) (k : Int) (t : ByteArray) (A : Option Addr) (n c : Nat) (B : Option Addr) (m e : Nat) (hp : PathAt w anyB p [.int .i64 k, .string t, .slice A n c, .slice B m e]) (hT : Tabs w) :
    Calls Tryd.prog 7 #[.agg #[.int .i64 k, .string t, .slice A n c, .slice B m e], .int .i64 cut, .string more] w fun e w' => e = .returned (.bool true) ∧ Below w.heap.size w w' := by
  obtain ⟨w0, hw0, HB0, HN0⟩ := boxP w k t A n c B m e
  have HHW : Aside0 (w.alloc (.cells #[.int .i64 k, .string t, .slice A n c, .slice B m e] 25) = w0) := ⟨hw0.symm⟩
  have HP0 := Aside0.mk (PathAt.below hp HB0.out)
  have HT0 := Aside0.mk (hT.below HB0.out)
  clear hw0 hp hT
  have CB : Aside0 (∀ W, PathAt W anyB p [.int .i64 k, .string t, .slice A n c, .slice B m e] → Calls Tryd.prog 23 #[.agg #[.int .i64 k, .string t, .slice A n c, .slice B m e], .int .i64 0] W fun e w' => e = .returned (.bool false) ∧ Below W.heap.size W w') := ⟨fun W hW => by
    have := big_any p 0 (by decide) W anyB k t A n c B m e hW
    rw [hbig] at this
    exact this⟩
  have CI : Aside0 (∀ W, PathAt W anyB p [.int .i64 k, .string t, .slice A n c, .slice B m e] → Tabs W → Calls Tryd.prog 24 #[.agg #[.int .i64 k, .string t, .slice A n c, .slice B m e]] W fun e w' => e = .returned (.bool true) ∧ Below W.heap.size W w') := ⟨fun W hW h => by
    have := refIs_path p hbig W anyB k t A n c B m e hW h
    rwa [hi] at this⟩
  have g1 : decide ((20 : Int) < (more.size : Int)) = false := by rw [decide_eq_false_iff_not]; omega
  obtain ⟨c0, hc0, h30, hsz⟩ := show_short hi
  have CS := Aside0.mk (Qr.show_any p 0 c0 hc0 (by omega))
  obtain ⟨x, hx⟩ : ∃ x, showB p = x := ⟨_, rfl⟩
  rw [hx] at CS hsz
  obtain ⟨kk, hkk, hkl⟩ := cut_at cut x.size
  obtain ⟨u, hu⟩ : ∃ u, x.extract 0 kk = u := ⟨_, rfl⟩
  have husz : u.size ≤ 9000 := by rw [← hu, ByteArray.size_extract]; omega
  have hsl : ∀ W : World, (Instr.slice 9 (.string x) none (some (.int .i64 (kk : Int))) none).run Tryd.prog W = .ok (.string u) W := fun W => by
    have := run_slice_string_h (P := Tryd.prog) 9 x Tryd.underlying9 .i64 (kk : Int) (by omega) (by omega) (w := W)
    rwa [show ((kk : Int)).toNat = kk by omega, hu] at this
  have g2 : (((x.size : Int) + 1) == 0) = false := by rw [beq_eq_false_iff_ne]; omega
  have g3 : ¬ 9223372036854775807 < u.size + more.size := by omega
  have g4 : (x.size : Int) ≤ 9000 := by omega
  obtain ⟨s, hs⟩ : ∃ s, u ++ more = s := ⟨_, rfl⟩
  have HSS := Aside0.mk hs
  have hss : s.size ≤ 50000 := by rw [← hs, ByteArray.size_append]; omega
  have CK := Aside0.mk known_any
  have C1 := Aside0.mk (fun W (h : Tabs W) => read_any s W hss h)
  have C2 := Aside0.mk (fun W (h : Tabs W) => Qr.read_any s W hss h)
  obtain ⟨r, hr⟩ : ∃ r, readS s = r := ⟨_, rfl⟩
  rw [hr] at C1 C2
  obtain ⟨p2, nn, er⟩ := r
  clear hx hu hs hr hss hc0 hi hbig hm h30
  go_enter Tryd.func7, Tryd.ntmps7
  go_upto_region 1 with (fail)
  rw [HHW.out]
  have q0 := blk_cell HN0.out 0; have q1 := blk_cell HN0.out 1; have q2 := blk_cell HN0.out 2; have q3 := blk_cell HN0.out 3; simp at q0 q1 q2 q3
  go_upto_region 4 with (first
    | (go_at_call 23; (with_reducible refine (CB.out _ HP0.out).mono ?_); rintro e w1 ⟨rfl, hb⟩; have HB1 := Aside0.mk (below_then HB0.out HB0.out.size hb); have HP1 := Aside0.mk (PathAt.below HP0.out hb); have HT1 := Aside0.mk (HT0.out.below hb); have HN1 := Aside0.mk (blk_below HN0.out hb); clear q0 q1 q2 q3; have q0 := blk_cell HN1.out 0; have q1 := blk_cell HN1.out 1; have q2 := blk_cell HN1.out 2; have q3 := blk_cell HN1.out 3; simp at q0 q1 q2 q3; clear hb)
    | (go_at_call 24; (with_reducible refine (CI.out _ HP1.out HT1.out).mono ?_); rintro e w2 ⟨rfl, hb⟩; have HB2 := Aside0.mk (below_then HB1.out HB1.out.size hb); have HP2 := Aside0.mk (PathAt.below HP1.out hb); have HT2 := Aside0.mk (HT1.out.below hb); have HN2 := Aside0.mk (blk_below HN1.out hb); clear q0 q1 q2 q3; have q0 := blk_cell HN2.out 0; have q1 := blk_cell HN2.out 1; have q2 := blk_cell HN2.out 2; have q3 := blk_cell HN2.out 3; simp at q0 q1 q2 q3; clear hb)
    | (go_at_call 30; (refine (CS.out _ _ _ _ _ _ _ _ _ _ HP2.out).mono ?_); rintro e w3 ⟨rfl, hb⟩; have HB3 := Aside0.mk (below_then HB2.out HB2.out.size hb); have HP3 := Aside0.mk (PathAt.below HP2.out hb); have HT3 := Aside0.mk (HT2.out.below hb); have HN3 := Aside0.mk (blk_below HN2.out hb); clear q0 q1 q2 q3; have q0 := blk_cell HN3.out 0; have q1 := blk_cell HN3.out 1; have q2 := blk_cell HN3.out 2; have q3 := blk_cell HN3.out 3; simp at q0 q1 q2 q3; clear hb))
  go_upto_region 5 with (fail)
  rw [HSS.out]
  go_upto_region 6 with (go_at_call 26; (with_reducible refine (C1.out _ HT3.out).mono ?_); rintro e w4 ⟨k1, t1, A1, n1, c1, B1, m1, d1, rfl, hb, hp⟩; have HB4 := Aside0.mk (below_then HB3.out HB3.out.size hb); have HT4 := Aside0.mk (HT3.out.below hb); clear hb hp)
  obtain ⟨w5, hw5, HA5, HN5⟩ := boxP w4 k1 t1 A1 n1 c1 B1 m1 d1
  rw [← hw5]
  have HB5 := Aside0.mk (below_then HB4.out HB4.out.size HA5.out)
  have HT5 := Aside0.mk (HT4.out.below HA5.out)
  clear hw5
  go_upto_region 7 with (go_at_call 27; (with_reducible refine (C2.out _ HT5.out).mono ?_); rintro e w6 ⟨k2, t2, A2, n2, c2, B2, m2, d2, rfl, hb, hp⟩; have HB6 := Aside0.mk (below_then HB5.out HB5.out.size hb); have HT6 := Aside0.mk (HT5.out.below hb); clear hb hp)
  obtain ⟨w7, hw7, HA7, HN7⟩ := boxP w6 k2 t2 A2 n2 c2 B2 m2 d2
  rw [← hw7]
  have HB7 := Aside0.mk (below_then HB6.out HB6.out.size HA7.out)
  have HT7 := Aside0.mk (HT6.out.below HA7.out)
  clear hw7
  go_wp2_with (go_at_call 28; (with_reducible refine (CK.out _ HT7.out).mono ?_); rintro e w8 ⟨rfl, hb⟩; have HB8 := Aside0.mk (below_then HB7.out HB7.out.size hb); clear hb)
  go_ret
  exact ⟨rfl, HB8.out⟩
theorem cut_law (p : Pth) (cs : List Value) (cut : Int) (more : ByteArray) (w : World) (hp : PathAt w anyB p cs) (_h1 : (Lit.int .i64 cut).wf = true) (_h2 : more.size ≤ maxLen) (h3 : more.size ≤ 140737488351232) (hT : Tabs w) : Calls Tryd.prog 7 #[.agg cs.toArray, .int .i64 cut, .string more] w fun e w' => e = .returned (.bool true) ∧ Below w.heap.size w w' := by
  obtain ⟨k, t, ts, ks⟩ := p
  obtain ⟨A, c, B, d, rfl, -⟩ := path_cells hp
  by_cases hb : bigP (.mk k t ts ks) 0 = true
  · exact cut_big _ cut more h3 hb w _ _ _ _ _ _ _ _ hp hT
  have hb := Bool.not_eq_true _ |>.mp hb
  cases hi : isP (.mk k t ts ks) with
  | false => exact cut_not _ cut more h3 hb hi w _ _ _ _ _ _ _ _ hp hT
  | true =>
    by_cases hm : 20 < more.size
    · exact cut_more _ cut more h3 hb hi hm w _ _ _ _ _ _ _ _ hp hT
    · exact cut_go _ cut more h3 hb hi (by omega) w _ _ _ _ _ _ _ _ hp hT
end Go.Proofs.YtbaegfjoionojaaDoor.Qy
