/- The law QueryTells: of any path whether it may be, and its text; of any two whether they are one. -/
import Derived.Test.YtbaegfjoionojaaDoorQyO
import Derived.Test.YtbaegfjoionojaaDoorQyW
import Derived.Test.YtbaegfjoionojaaDoorQyT
import Derived.Test.YtbaegfjoionojaaDoorQyX
import Derived.Test.YtbaegfjoionojaaDoorQrH
import Derived.Test.YtbaegfjoionojaaDoorQyN
set_option linter.unusedSimpArgs false
set_option linter.unusedVariables false
namespace Go.Proofs.YtbaegfjoionojaaDoor.Qy
open Go Go.RowKit Go.Proofs.YtbaegfjoionojaaDoor.Tm Go.Proofs.YtbaegfjoionojaaDoorW.PrintWords

set_option maxRecDepth 100000 in
set_option maxHeartbeats 8000000 in
theorem tells_big1 (p q : Pth) (hb1 : bigP p 0 = true) (w : World) (k : Int) (t : ByteArray) (A : Option Addr) (n c : Nat) (B : Option Addr) (m e : Nat) (hp : PathAt w anyB p [.int .i64 k, .string t, .slice A n c, .slice B m e]) (k2 : Int) (t2 : ByteArray) (A2 : Option Addr) (n2 c2 : Nat) (B2 : Option Addr) (m2 e2 : Nat) (hq : PathAt w anyB q [.int .i64 k2, .string t2, .slice A2 n2 c2, .slice B2 m2 e2]) (hT : Tabs w) :
    Calls Tryd.prog 9 #[.agg #[.int .i64 k, .string t, .slice A n c, .slice B m e], .agg #[.int .i64 k2, .string t2, .slice A2 n2 c2, .slice B2 m2 e2]] w fun e w' => e = .returned (.bool true) ∧ Below w.heap.size w w' := by
  obtain ⟨w0, hw0, HA0, HN0⟩ := boxP w k t A n c B m e
  obtain ⟨w1, hw1, HA1, HN1⟩ := boxP w0 k2 t2 A2 n2 c2 B2 m2 e2
  have hz0 : w0.heap.size = w.heap.size + 1 := by rw [hw0]; simp
  have HHW : Aside0 ((w.alloc (.cells #[.int .i64 k, .string t, .slice A n c, .slice B m e] 25)).alloc (.cells #[.int .i64 k2, .string t2, .slice A2 n2 c2, .slice B2 m2 e2] 25) = w1) := ⟨by rw [hw1, hw0]⟩
  have HNP := Aside0.mk (blk_below HN0.out HA1.out)
  rw [hz0] at HN1
  have HB0 : Aside0 (Below w.heap.size w w1) := ⟨HA0.out.trans (HA1.out.mono HA0.out.size)⟩
  have HP : Aside0 (∀ W, Below w1.heap.size w1 W → PathAt W anyB p [.int .i64 k, .string t, .slice A n c, .slice B m e]) := ⟨fun W h => (PathAt.below hp HB0.out).below h⟩
  have HQ : Aside0 (∀ W, Below w1.heap.size w1 W → PathAt W anyB q [.int .i64 k2, .string t2, .slice A2 n2 c2, .slice B2 m2 e2]) := ⟨fun W h => (PathAt.below hq HB0.out).below h⟩
  have HT : Aside0 (∀ W, Below w1.heap.size w1 W → Tabs W) := ⟨fun W h => (hT.below HB0.out).below h⟩
  have HS : Aside0 (∀ W, Below w1.heap.size w1 W → (fun W : World => W.cell? ⟨w.heap.size, 0, none⟩ = some (.int .i64 k) ∧ W.cell? ⟨w.heap.size, 1, none⟩ = some (.string t) ∧ W.cell? ⟨w.heap.size, 2, none⟩ = some (.slice A n c) ∧ W.cell? ⟨w.heap.size, 3, none⟩ = some (.slice B m e) ∧ W.cell? ⟨w.heap.size + 1, 0, none⟩ = some (.int .i64 k2) ∧ W.cell? ⟨w.heap.size + 1, 1, none⟩ = some (.string t2) ∧ W.cell? ⟨w.heap.size + 1, 2, none⟩ = some (.slice A2 n2 c2) ∧ W.cell? ⟨w.heap.size + 1, 3, none⟩ = some (.slice B2 m2 e2)) W) := ⟨fun W h => ⟨(blk_cell (blk_below HNP.out h) 0).trans rfl, (blk_cell (blk_below HNP.out h) 1).trans rfl, (blk_cell (blk_below HNP.out h) 2).trans rfl, (blk_cell (blk_below HNP.out h) 3).trans rfl, (blk_cell (blk_below HN1.out h) 0).trans rfl, (blk_cell (blk_below HN1.out h) 1).trans rfl, (blk_cell (blk_below HN1.out h) 2).trans rfl, (blk_cell (blk_below HN1.out h) 3).trans rfl⟩⟩
  have HB1 : Aside0 (Below w1.heap.size w1 w1) := ⟨Below.refl _ _⟩
  clear hw0 hw1 hz0 hp hq hT
  have C1 : Aside0 (∀ W, Below w1.heap.size w1 W → Calls Tryd.prog 23 #[.agg #[.int .i64 k, .string t, .slice A n c, .slice B m e], .int .i64 0] W fun e w' => e = .returned (.bool true) ∧ Below W.heap.size W w') := ⟨fun W h => by
    have := big_any p 0 (by decide) W anyB _ _ _ _ _ _ _ _ (HP.out W h)
    rw [hb1] at this
    exact this⟩
  go_enter Tryd.func9, Tryd.ntmps9
  go_upto_region 1 with (fail)
  rw [HHW.out]
  obtain ⟨q0, q1, q2, q3, r0, r1, r2, r3⟩ := HS.out _ HB1.out
  go_wp2_with (go_at_call 23; (with_reducible refine (C1.out _ HB1.out).mono ?_); rintro e w2 ⟨rfl, hb⟩; have HB2 := Aside0.mk (below_then HB1.out HB1.out.size hb); clear hb q0 q1 q2 q3 r0 r1 r2 r3; obtain ⟨q0, q1, q2, q3, r0, r1, r2, r3⟩ := HS.out _ HB2.out)
  go_ret
  exact ⟨rfl, HB0.out.trans (HB2.out.mono HB0.out.size)⟩
set_option maxRecDepth 100000 in
set_option maxHeartbeats 8000000 in
theorem tells_big2 (p q : Pth) (hb1 : bigP p 0 = false) (hb2 : bigP q 0 = true) (w : World) (k : Int) (t : ByteArray) (A : Option Addr) (n c : Nat) (B : Option Addr) (m e : Nat) (hp : PathAt w anyB p [.int .i64 k, .string t, .slice A n c, .slice B m e]) (k2 : Int) (t2 : ByteArray) (A2 : Option Addr) (n2 c2 : Nat) (B2 : Option Addr) (m2 e2 : Nat) (hq : PathAt w anyB q [.int .i64 k2, .string t2, .slice A2 n2 c2, .slice B2 m2 e2]) (hT : Tabs w) :
    Calls Tryd.prog 9 #[.agg #[.int .i64 k, .string t, .slice A n c, .slice B m e], .agg #[.int .i64 k2, .string t2, .slice A2 n2 c2, .slice B2 m2 e2]] w fun e w' => e = .returned (.bool true) ∧ Below w.heap.size w w' := by
  obtain ⟨w0, hw0, HA0, HN0⟩ := boxP w k t A n c B m e
  obtain ⟨w1, hw1, HA1, HN1⟩ := boxP w0 k2 t2 A2 n2 c2 B2 m2 e2
  have hz0 : w0.heap.size = w.heap.size + 1 := by rw [hw0]; simp
  have HHW : Aside0 ((w.alloc (.cells #[.int .i64 k, .string t, .slice A n c, .slice B m e] 25)).alloc (.cells #[.int .i64 k2, .string t2, .slice A2 n2 c2, .slice B2 m2 e2] 25) = w1) := ⟨by rw [hw1, hw0]⟩
  have HNP := Aside0.mk (blk_below HN0.out HA1.out)
  rw [hz0] at HN1
  have HB0 : Aside0 (Below w.heap.size w w1) := ⟨HA0.out.trans (HA1.out.mono HA0.out.size)⟩
  have HP : Aside0 (∀ W, Below w1.heap.size w1 W → PathAt W anyB p [.int .i64 k, .string t, .slice A n c, .slice B m e]) := ⟨fun W h => (PathAt.below hp HB0.out).below h⟩
  have HQ : Aside0 (∀ W, Below w1.heap.size w1 W → PathAt W anyB q [.int .i64 k2, .string t2, .slice A2 n2 c2, .slice B2 m2 e2]) := ⟨fun W h => (PathAt.below hq HB0.out).below h⟩
  have HT : Aside0 (∀ W, Below w1.heap.size w1 W → Tabs W) := ⟨fun W h => (hT.below HB0.out).below h⟩
  have HS : Aside0 (∀ W, Below w1.heap.size w1 W → (fun W : World => W.cell? ⟨w.heap.size, 0, none⟩ = some (.int .i64 k) ∧ W.cell? ⟨w.heap.size, 1, none⟩ = some (.string t) ∧ W.cell? ⟨w.heap.size, 2, none⟩ = some (.slice A n c) ∧ W.cell? ⟨w.heap.size, 3, none⟩ = some (.slice B m e) ∧ W.cell? ⟨w.heap.size + 1, 0, none⟩ = some (.int .i64 k2) ∧ W.cell? ⟨w.heap.size + 1, 1, none⟩ = some (.string t2) ∧ W.cell? ⟨w.heap.size + 1, 2, none⟩ = some (.slice A2 n2 c2) ∧ W.cell? ⟨w.heap.size + 1, 3, none⟩ = some (.slice B2 m2 e2)) W) := ⟨fun W h => ⟨(blk_cell (blk_below HNP.out h) 0).trans rfl, (blk_cell (blk_below HNP.out h) 1).trans rfl, (blk_cell (blk_below HNP.out h) 2).trans rfl, (blk_cell (blk_below HNP.out h) 3).trans rfl, (blk_cell (blk_below HN1.out h) 0).trans rfl, (blk_cell (blk_below HN1.out h) 1).trans rfl, (blk_cell (blk_below HN1.out h) 2).trans rfl, (blk_cell (blk_below HN1.out h) 3).trans rfl⟩⟩
  have HB1 : Aside0 (Below w1.heap.size w1 w1) := ⟨Below.refl _ _⟩
  clear hw0 hw1 hz0 hp hq hT
  have C1 : Aside0 (∀ W, Below w1.heap.size w1 W → Calls Tryd.prog 23 #[.agg #[.int .i64 k, .string t, .slice A n c, .slice B m e], .int .i64 0] W fun e w' => e = .returned (.bool false) ∧ Below W.heap.size W w') := ⟨fun W h => by
    have := big_any p 0 (by decide) W anyB _ _ _ _ _ _ _ _ (HP.out W h)
    rw [hb1] at this
    exact this⟩
  have C2 : Aside0 (∀ W, Below w1.heap.size w1 W → Calls Tryd.prog 23 #[.agg #[.int .i64 k2, .string t2, .slice A2 n2 c2, .slice B2 m2 e2], .int .i64 0] W fun e w' => e = .returned (.bool true) ∧ Below W.heap.size W w') := ⟨fun W h => by
    have := big_any q 0 (by decide) W anyB _ _ _ _ _ _ _ _ (HQ.out W h)
    rw [hb2] at this
    exact this⟩
  go_enter Tryd.func9, Tryd.ntmps9
  go_upto_region 1 with (fail)
  rw [HHW.out]
  obtain ⟨q0, q1, q2, q3, r0, r1, r2, r3⟩ := HS.out _ HB1.out
  go_wp2_with (first
    | (go_at_call 23; (with_reducible refine (C1.out _ HB1.out).mono ?_); rintro e w2 ⟨rfl, hb⟩; have HB2 := Aside0.mk (below_then HB1.out HB1.out.size hb); clear hb q0 q1 q2 q3 r0 r1 r2 r3; obtain ⟨q0, q1, q2, q3, r0, r1, r2, r3⟩ := HS.out _ HB2.out)
    | (go_at_call 23; (with_reducible refine (C2.out _ HB2.out).mono ?_); rintro e w3 ⟨rfl, hb⟩; have HB3 := Aside0.mk (below_then HB2.out HB2.out.size hb); clear hb q0 q1 q2 q3 r0 r1 r2 r3; obtain ⟨q0, q1, q2, q3, r0, r1, r2, r3⟩ := HS.out _ HB3.out))
  go_ret
  exact ⟨rfl, HB0.out.trans (HB3.out.mono HB0.out.size)⟩
set_option maxRecDepth 100000 in
set_option maxHeartbeats 8000000 in
theorem tells_yes (p q : Pth) (hb1 : bigP p 0 = false) (hb2 : bigP q 0 = false) (hi : isP p = true) (w : World) (k : Int) (t : ByteArray) (A : Option Addr) (n c : Nat) (B : Option Addr) (m e : Nat) (hp : PathAt w anyB p [.int .i64 k, .string t, .slice A n c, .slice B m e]) (k2 : Int) (t2 : ByteArray) (A2 : Option Addr) (n2 c2 : Nat) (B2 : Option Addr) (m2 e2 : Nat) (hq : PathAt w anyB q [.int .i64 k2, .string t2, .slice A2 n2 c2, .slice B2 m2 e2]) (hT : Tabs w) :
    Calls Tryd.prog 9 #[.agg #[.int .i64 k, .string t, .slice A n c, .slice B m e], .agg #[.int .i64 k2, .string t2, .slice A2 n2 c2, .slice B2 m2 e2]] w fun e w' => e = .returned (.bool true) ∧ Below w.heap.size w w' := by
  obtain ⟨w0, hw0, HA0, HN0⟩ := boxP w k t A n c B m e
  obtain ⟨w1, hw1, HA1, HN1⟩ := boxP w0 k2 t2 A2 n2 c2 B2 m2 e2
  have hz0 : w0.heap.size = w.heap.size + 1 := by rw [hw0]; simp
  have HHW : Aside0 ((w.alloc (.cells #[.int .i64 k, .string t, .slice A n c, .slice B m e] 25)).alloc (.cells #[.int .i64 k2, .string t2, .slice A2 n2 c2, .slice B2 m2 e2] 25) = w1) := ⟨by rw [hw1, hw0]⟩
  have HNP := Aside0.mk (blk_below HN0.out HA1.out)
  rw [hz0] at HN1
  have HB0 : Aside0 (Below w.heap.size w w1) := ⟨HA0.out.trans (HA1.out.mono HA0.out.size)⟩
  have HP : Aside0 (∀ W, Below w1.heap.size w1 W → PathAt W anyB p [.int .i64 k, .string t, .slice A n c, .slice B m e]) := ⟨fun W h => (PathAt.below hp HB0.out).below h⟩
  have HQ : Aside0 (∀ W, Below w1.heap.size w1 W → PathAt W anyB q [.int .i64 k2, .string t2, .slice A2 n2 c2, .slice B2 m2 e2]) := ⟨fun W h => (PathAt.below hq HB0.out).below h⟩
  have HT : Aside0 (∀ W, Below w1.heap.size w1 W → Tabs W) := ⟨fun W h => (hT.below HB0.out).below h⟩
  have HS : Aside0 (∀ W, Below w1.heap.size w1 W → (fun W : World => W.cell? ⟨w.heap.size, 0, none⟩ = some (.int .i64 k) ∧ W.cell? ⟨w.heap.size, 1, none⟩ = some (.string t) ∧ W.cell? ⟨w.heap.size, 2, none⟩ = some (.slice A n c) ∧ W.cell? ⟨w.heap.size, 3, none⟩ = some (.slice B m e) ∧ W.cell? ⟨w.heap.size + 1, 0, none⟩ = some (.int .i64 k2) ∧ W.cell? ⟨w.heap.size + 1, 1, none⟩ = some (.string t2) ∧ W.cell? ⟨w.heap.size + 1, 2, none⟩ = some (.slice A2 n2 c2) ∧ W.cell? ⟨w.heap.size + 1, 3, none⟩ = some (.slice B2 m2 e2)) W) := ⟨fun W h => ⟨(blk_cell (blk_below HNP.out h) 0).trans rfl, (blk_cell (blk_below HNP.out h) 1).trans rfl, (blk_cell (blk_below HNP.out h) 2).trans rfl, (blk_cell (blk_below HNP.out h) 3).trans rfl, (blk_cell (blk_below HN1.out h) 0).trans rfl, (blk_cell (blk_below HN1.out h) 1).trans rfl, (blk_cell (blk_below HN1.out h) 2).trans rfl, (blk_cell (blk_below HN1.out h) 3).trans rfl⟩⟩
  have HB1 : Aside0 (Below w1.heap.size w1 w1) := ⟨Below.refl _ _⟩
  clear hw0 hw1 hz0 hp hq hT
  have C1 : Aside0 (∀ W, Below w1.heap.size w1 W → Calls Tryd.prog 23 #[.agg #[.int .i64 k, .string t, .slice A n c, .slice B m e], .int .i64 0] W fun e w' => e = .returned (.bool false) ∧ Below W.heap.size W w') := ⟨fun W h => by
    have := big_any p 0 (by decide) W anyB _ _ _ _ _ _ _ _ (HP.out W h)
    rw [hb1] at this
    exact this⟩
  have C2 : Aside0 (∀ W, Below w1.heap.size w1 W → Calls Tryd.prog 23 #[.agg #[.int .i64 k2, .string t2, .slice A2 n2 c2, .slice B2 m2 e2], .int .i64 0] W fun e w' => e = .returned (.bool false) ∧ Below W.heap.size W w') := ⟨fun W h => by
    have := big_any q 0 (by decide) W anyB _ _ _ _ _ _ _ _ (HQ.out W h)
    rw [hb2] at this
    exact this⟩
  have CI : Aside0 (∀ W, Below w1.heap.size w1 W → Calls Tryd.prog 32 #[.agg #[.int .i64 k, .string t, .slice A n c, .slice B m e]] W fun e w' => e = .returned (.bool true) ∧ Below W.heap.size W w') := ⟨fun W h => by
    have := is_path p hb1 W anyB _ _ _ _ _ _ _ _ (HP.out W h) (HT.out W h)
    rwa [hi] at this⟩
  have CJ : Aside0 (∀ W, Below w1.heap.size w1 W → Calls Tryd.prog 24 #[.agg #[.int .i64 k, .string t, .slice A n c, .slice B m e]] W fun e w' => e = .returned (.bool true) ∧ Below W.heap.size W w') := ⟨fun W h => by
    have := refIs_path p hb1 W anyB _ _ _ _ _ _ _ _ (HP.out W h) (HT.out W h)
    rwa [hi] at this⟩
  obtain ⟨s, hs⟩ : ∃ s, sameP p q = s := ⟨_, rfl⟩
  have CE : Aside0 (∀ W, Below w1.heap.size w1 W → Calls Tryd.prog 31 #[.agg #[.int .i64 k, .string t, .slice A n c, .slice B m e], .agg #[.int .i64 k2, .string t2, .slice A2 n2 c2, .slice B2 m2 e2]] W fun e w' => e = .returned (.bool s) ∧ Below W.heap.size W w') := ⟨fun W h => by
    have := same_any p q W anyB anyB _ _ _ _ _ _ _ _ _ _ _ _ _ _ _ _ (HP.out W h) (HQ.out W h)
    rwa [hs] at this⟩
  have CF : Aside0 (∀ W, Below w1.heap.size w1 W → Calls Tryd.prog 29 #[.agg #[.int .i64 k, .string t, .slice A n c, .slice B m e], .agg #[.int .i64 k2, .string t2, .slice A2 n2 c2, .slice B2 m2 e2]] W fun e w' => e = .returned (.bool s) ∧ Below W.heap.size W w') := ⟨fun W h => by
    have := refSame_any p q W anyB anyB _ _ _ _ _ _ _ _ _ _ _ _ _ _ _ _ (HP.out W h) (HQ.out W h)
    rwa [hs] at this⟩
  have CG : Aside0 (∀ W, Below w1.heap.size w1 W → Calls Tryd.prog 31 #[.agg #[.int .i64 k, .string t, .slice A n c, .slice B m e], .agg #[.int .i64 k, .string t, .slice A n c, .slice B m e]] W fun e w' => e = .returned (.bool true) ∧ Below W.heap.size W w') := ⟨fun W h => by
    have := same_any p p W anyB anyB _ _ _ _ _ _ _ _ _ _ _ _ _ _ _ _ (HP.out W h) (HP.out W h)
    rwa [same_yes rfl] at this⟩
  have CK : Aside0 (∀ W, Below w1.heap.size w1 W → Calls Tryd.prog 28 #[] W fun e w' => e = .returned (.bool true) ∧ Below W.heap.size W w') := ⟨fun W h => by
    exact known_any W (HT.out W h)⟩
  obtain ⟨c0, hc0, h30, -⟩ := may_shown hi
  obtain ⟨x, hx⟩ : ∃ x, showB p = x := ⟨_, rfl⟩
  have CS : Aside0 (∀ W, Below w1.heap.size w1 W → Calls Tryd.prog 25 #[.agg #[.int .i64 k, .string t, .slice A n c, .slice B m e]] W fun e w' => e = .returned (.string x) ∧ Below W.heap.size W w') := ⟨fun W h => by
    have := show_any p 0 c0 hc0 (by omega) W anyB _ _ _ _ _ _ _ _ (HP.out W h)
    rwa [hx] at this⟩
  have CR : Aside0 (∀ W, Below w1.heap.size w1 W → Calls Tryd.prog 30 #[.agg #[.int .i64 k, .string t, .slice A n c, .slice B m e]] W fun e w' => e = .returned (.string x) ∧ Below W.heap.size W w') := ⟨fun W h => by
    have := Qr.show_any p 0 c0 hc0 (by omega) W anyB _ _ _ _ _ _ _ _ (HP.out W h)
    rwa [hx] at this⟩
  clear hc0 h30 hx
  clear hb1 hb2 hi hs
  go_enter Tryd.func9, Tryd.ntmps9
  go_upto_region 1 with (fail)
  rw [HHW.out]
  obtain ⟨q0, q1, q2, q3, r0, r1, r2, r3⟩ := HS.out _ HB1.out
  go_upto_region 3 with (first
    | (go_at_call 23; (with_reducible refine (C1.out _ HB1.out).mono ?_); rintro e w2 ⟨rfl, hb⟩; have HB2 := Aside0.mk (below_then HB1.out HB1.out.size hb); clear hb q0 q1 q2 q3 r0 r1 r2 r3; obtain ⟨q0, q1, q2, q3, r0, r1, r2, r3⟩ := HS.out _ HB2.out)
    | (go_at_call 23; (with_reducible refine (C2.out _ HB2.out).mono ?_); rintro e w3 ⟨rfl, hb⟩; have HB3 := Aside0.mk (below_then HB2.out HB2.out.size hb); clear hb q0 q1 q2 q3 r0 r1 r2 r3; obtain ⟨q0, q1, q2, q3, r0, r1, r2, r3⟩ := HS.out _ HB3.out))
  clear q0 q1 q2 q3 r0 r1 r2 r3
  have hS : (fun W : World => W.cell? ⟨w.heap.size, 0, none⟩ = some (.int .i64 k) ∧ W.cell? ⟨w.heap.size, 1, none⟩ = some (.string t) ∧ W.cell? ⟨w.heap.size, 2, none⟩ = some (.slice A n c) ∧ W.cell? ⟨w.heap.size, 3, none⟩ = some (.slice B m e) ∧ W.cell? ⟨w.heap.size + 1, 0, none⟩ = some (.int .i64 k2) ∧ W.cell? ⟨w.heap.size + 1, 1, none⟩ = some (.string t2) ∧ W.cell? ⟨w.heap.size + 1, 2, none⟩ = some (.slice A2 n2 c2) ∧ W.cell? ⟨w.heap.size + 1, 3, none⟩ = some (.slice B2 m2 e2)) w3.drew := HS.out _ (below_drew HB3.out)
  refine wp_region_held (S := (fun W : World => W.cell? ⟨w.heap.size, 0, none⟩ = some (.int .i64 k) ∧ W.cell? ⟨w.heap.size, 1, none⟩ = some (.string t) ∧ W.cell? ⟨w.heap.size, 2, none⟩ = some (.slice A n c) ∧ W.cell? ⟨w.heap.size, 3, none⟩ = some (.slice B m e) ∧ W.cell? ⟨w.heap.size + 1, 0, none⟩ = some (.int .i64 k2) ∧ W.cell? ⟨w.heap.size + 1, 1, none⟩ = some (.string t2) ∧ W.cell? ⟨w.heap.size + 1, 2, none⟩ = some (.slice A2 n2 c2) ∧ W.cell? ⟨w.heap.size + 1, 3, none⟩ = some (.slice B2 m2 e2))) (by kernel_rfl) ?_
  change wpAnyH _ _ _ _ _ _ _ _ w3.drew
  first | refine tkU 0 hS ?_ | (refine tkV 0 (v := ?_) hS ?_ ?_; rotate_left 1; · (intro w0 hSw; (try dsimp only at hSw); go_split_ands; go_simp; try with_reducible rfl)) | fail
  try simp only [Act.put, pL]
  first | refine tkU 2 hS ?_ | (refine tkV 2 (v := ?_) hS ?_ ?_; rotate_left 1; · (intro w0 hSw; (try dsimp only at hSw); go_split_ands; go_simp; try with_reducible rfl)) | fail
  try simp only [Act.put, pL]
  refine wpAnyH_ready (rs := [1]) (by kernel_rfl) (by simp) ?_
  refine AllReadyH.cons rfl (fun K hK => ?_) AllReadyH.nil
  go_simp
  refine (CI.out _ (below_drew HB3.out)).mono ?_
  rintro e w4 ⟨rfl, hb⟩
  have HB4 := Aside0.mk (below_then (below_drew HB3.out) (below_drew HB3.out).size hb)
  clear hb hS
  have hS := HS.out _ HB4.out
  refine hK.out _ _ hS (fun _ => ?_)
  clear hK K
  try simp only [Act.put, pL]
  refine wpAnyH_ready (rs := [3]) (by kernel_rfl) (by simp) ?_
  refine AllReadyH.cons rfl (fun K hK => ?_) AllReadyH.nil
  go_simp
  refine (CJ.out _ HB4.out).mono ?_
  rintro e w5 ⟨rfl, hb⟩
  have HB5 := Aside0.mk (below_then HB4.out HB4.out.size hb)
  clear hb hS
  have hS := HS.out _ HB5.out
  refine hK.out _ _ hS (fun _ => ?_)
  clear hK K
  try simp only [Act.put, pL]
  first | refine tkU 4 hS ?_ | (refine tkV 4 (v := ?_) hS ?_ ?_; rotate_left 1; · (intro w0 hSw; (try dsimp only at hSw); go_split_ands; go_simp; try with_reducible rfl)) | fail
  try simp only [Act.put, pL]
  first | refine tkU 5 hS ?_ | (refine tkV 5 (v := ?_) hS ?_ ?_; rotate_left 1; · (intro w0 hSw; (try dsimp only at hSw); go_split_ands; go_simp; try with_reducible rfl)) | fail
  try simp only [Act.put, pL]
  first | refine tkU 6 hS ?_ | (refine tkV 6 (v := ?_) hS ?_ ?_; rotate_left 1; · (intro w0 hSw; (try dsimp only at hSw); go_split_ands; go_simp; try with_reducible rfl)) | fail
  try simp only [Act.put, pL]
  first | refine tkU 7 hS ?_ | (refine tkV 7 (v := ?_) hS ?_ ?_; rotate_left 1; · (intro w0 hSw; (try dsimp only at hSw); go_split_ands; go_simp; try with_reducible rfl)) | fail
  try simp only [Act.put, pL]
  first | refine tkU 9 hS ?_ | (refine tkV 9 (v := ?_) hS ?_ ?_; rotate_left 1; · (intro w0 hSw; (try dsimp only at hSw); go_split_ands; go_simp; try with_reducible rfl)) | fail
  try simp only [Act.put, pL]
  first | refine tkU 10 hS ?_ | (refine tkV 10 (v := ?_) hS ?_ ?_; rotate_left 1; · (intro w0 hSw; (try dsimp only at hSw); go_split_ands; go_simp; try with_reducible rfl)) | fail
  try simp only [Act.put, pL]
  refine wpAnyH_ready (rs := [8]) (by kernel_rfl) (by simp) ?_
  refine AllReadyH.cons rfl (fun K hK => ?_) AllReadyH.nil
  go_simp
  refine (CE.out _ HB5.out).mono ?_
  rintro e w6 ⟨rfl, hb⟩
  have HB6 := Aside0.mk (below_then HB5.out HB5.out.size hb)
  clear hb hS
  have hS := HS.out _ HB6.out
  refine hK.out _ _ hS (fun _ => ?_)
  clear hK K
  try simp only [Act.put, pL]
  refine wpAnyH_ready (rs := [11]) (by kernel_rfl) (by simp) ?_
  refine AllReadyH.cons rfl (fun K hK => ?_) AllReadyH.nil
  go_simp
  refine (CF.out _ HB6.out).mono ?_
  rintro e w7 ⟨rfl, hb⟩
  have HB7 := Aside0.mk (below_then HB6.out HB6.out.size hb)
  clear hb hS
  have hS := HS.out _ HB7.out
  refine hK.out _ _ hS (fun _ => ?_)
  clear hK K
  try simp only [Act.put, pL]
  first | refine tkU 12 hS ?_ | (refine tkV 12 (v := ?_) hS ?_ ?_; rotate_left 1; · (intro w0 hSw; (try dsimp only at hSw); go_split_ands; go_simp; try with_reducible rfl)) | fail
  try simp only [Act.put, pL]
  first | refine tkU 13 hS ?_ | (refine tkV 13 (v := ?_) hS ?_ ?_; rotate_left 1; · (intro w0 hSw; (try dsimp only at hSw); go_split_ands; go_simp; try with_reducible rfl)) | fail
  try simp only [Act.put, pL]
  first | refine tkU 14 hS ?_ | (refine tkV 14 (v := ?_) hS ?_ ?_; rotate_left 1; · (intro w0 hSw; (try dsimp only at hSw); go_split_ands; go_simp; try with_reducible rfl)) | fail
  try simp only [Act.put, pL]
  first | refine tkU 15 hS ?_ | (refine tkV 15 (v := ?_) hS ?_ ?_; rotate_left 1; · (intro w0 hSw; (try dsimp only at hSw); go_split_ands; go_simp; try with_reducible rfl)) | fail
  try simp only [Act.put, pL]
  first | refine tkU 16 hS ?_ | (refine tkV 16 (v := ?_) hS ?_ ?_; rotate_left 1; · (intro w0 hSw; (try dsimp only at hSw); go_split_ands; go_simp; try with_reducible rfl)) | fail
  try simp only [Act.put, pL]
  refine wpAnyH_ready (rs := [17]) (by kernel_rfl) (by simp) ?_
  refine AllReadyH.cons rfl (fun K hK => ?_) AllReadyH.nil
  go_simp
  refine (CG.out _ HB7.out).mono ?_
  rintro e w8 ⟨rfl, hb⟩
  have HB8 := Aside0.mk (below_then HB7.out HB7.out.size hb)
  clear hb hS
  have hS := HS.out _ HB8.out
  refine hK.out _ _ hS (fun _ => ?_)
  clear hK K
  try simp only [Act.put, pL]
  first | refine tkU 18 hS ?_ | (refine tkV 18 (v := ?_) hS ?_ ?_; rotate_left 1; · (intro w0 hSw; (try dsimp only at hSw); go_split_ands; go_simp; try with_reducible rfl)) | fail
  try simp only [Act.put, pL]
  first | refine tkU 19 hS ?_ | (refine tkV 19 (v := ?_) hS ?_ ?_; rotate_left 1; · (intro w0 hSw; (try dsimp only at hSw); go_split_ands; go_simp; try with_reducible rfl)) | fail
  try simp only [Act.put, pL]
  refine wpAnyH_done (by kernel_rfl) ?_ _
  obtain ⟨q0, q1, q2, q3, r0, r1, r2, r3⟩ := hS
  go_upto_region 5 with (fail)
  clear q0 q1 q2 q3 r0 r1 r2 r3
  have hS : (fun W : World => W.cell? ⟨w.heap.size, 0, none⟩ = some (.int .i64 k) ∧ W.cell? ⟨w.heap.size, 1, none⟩ = some (.string t) ∧ W.cell? ⟨w.heap.size, 2, none⟩ = some (.slice A n c) ∧ W.cell? ⟨w.heap.size, 3, none⟩ = some (.slice B m e) ∧ W.cell? ⟨w.heap.size + 1, 0, none⟩ = some (.int .i64 k2) ∧ W.cell? ⟨w.heap.size + 1, 1, none⟩ = some (.string t2) ∧ W.cell? ⟨w.heap.size + 1, 2, none⟩ = some (.slice A2 n2 c2) ∧ W.cell? ⟨w.heap.size + 1, 3, none⟩ = some (.slice B2 m2 e2)) w8.drew := HS.out _ (below_drew HB8.out)
  refine wp_region_held (S := (fun W : World => W.cell? ⟨w.heap.size, 0, none⟩ = some (.int .i64 k) ∧ W.cell? ⟨w.heap.size, 1, none⟩ = some (.string t) ∧ W.cell? ⟨w.heap.size, 2, none⟩ = some (.slice A n c) ∧ W.cell? ⟨w.heap.size, 3, none⟩ = some (.slice B m e) ∧ W.cell? ⟨w.heap.size + 1, 0, none⟩ = some (.int .i64 k2) ∧ W.cell? ⟨w.heap.size + 1, 1, none⟩ = some (.string t2) ∧ W.cell? ⟨w.heap.size + 1, 2, none⟩ = some (.slice A2 n2 c2) ∧ W.cell? ⟨w.heap.size + 1, 3, none⟩ = some (.slice B2 m2 e2))) (by kernel_rfl) ?_
  change wpAnyH _ _ _ _ _ _ _ _ w8.drew
  first | refine tkU 0 hS ?_ | (refine tkV 0 (v := ?_) hS ?_ ?_; rotate_left 1; · (intro w0 hSw; (try dsimp only at hSw); go_split_ands; go_simp; try with_reducible rfl)) | fail
  try simp only [Act.put, pL]
  refine wpAnyH_ready (rs := [1]) (by kernel_rfl) (by simp) ?_
  refine AllReadyH.cons rfl (fun K hK => ?_) AllReadyH.nil
  go_simp
  refine (CJ.out _ (below_drew HB8.out)).mono ?_
  rintro e w9 ⟨rfl, hb⟩
  have HB9 := Aside0.mk (below_then (below_drew HB8.out) (below_drew HB8.out).size hb)
  clear hb hS
  have hS := HS.out _ HB9.out
  refine hK.out _ _ hS (fun _ => ?_)
  clear hK K
  try simp only [Act.put, pL]
  first | refine tkU 2 hS ?_ | (refine tkV 2 (v := ?_) hS ?_ ?_; rotate_left 1; · (intro w0 hSw; (try dsimp only at hSw); go_split_ands; go_simp; try with_reducible rfl)) | fail
  try simp only [Act.put, pL]
  first | refine tkU 3 hS ?_ | (refine tkV 3 (v := ?_) hS ?_ ?_; rotate_left 1; · (intro w0 hSw; (try dsimp only at hSw); go_split_ands; go_simp; try with_reducible rfl)) | fail
  try simp only [Act.put, pL]
  first | refine tkU 4 hS ?_ | (refine tkV 4 (v := ?_) hS ?_ ?_; rotate_left 1; · (intro w0 hSw; (try dsimp only at hSw); go_split_ands; go_simp; try with_reducible rfl)) | fail
  try simp only [Act.put, pL]
  first | refine tkU 6 hS ?_ | (refine tkV 6 (v := ?_) hS ?_ ?_; rotate_left 1; · (intro w0 hSw; (try dsimp only at hSw); go_split_ands; go_simp; try with_reducible rfl)) | fail
  try simp only [Act.put, pL]
  refine wpAnyH_ready (rs := [5]) (by kernel_rfl) (by simp) ?_
  refine AllReadyH.cons rfl (fun K hK => ?_) AllReadyH.nil
  go_simp
  refine (CS.out _ HB9.out).mono ?_
  rintro e w10 ⟨rfl, hb⟩
  have HB10 := Aside0.mk (below_then HB9.out HB9.out.size hb)
  clear hb hS
  have hS := HS.out _ HB10.out
  refine hK.out _ _ hS (fun _ => ?_)
  clear hK K
  try simp only [Act.put, pL]
  refine wpAnyH_ready (rs := [7]) (by kernel_rfl) (by simp) ?_
  refine AllReadyH.cons rfl (fun K hK => ?_) AllReadyH.nil
  go_simp
  refine (CR.out _ HB10.out).mono ?_
  rintro e w11 ⟨rfl, hb⟩
  have HB11 := Aside0.mk (below_then HB10.out HB10.out.size hb)
  clear hb hS
  have hS := HS.out _ HB11.out
  refine hK.out _ _ hS (fun _ => ?_)
  clear hK K
  try simp only [Act.put, pL]
  first | refine tkU 8 hS ?_ | (refine tkV 8 (v := ?_) hS ?_ ?_; rotate_left 1; · (intro w0 hSw; (try dsimp only at hSw); go_split_ands; go_simp; try with_reducible rfl)) | fail
  try simp only [Act.put, pL]
  first | refine tkU 9 hS ?_ | (refine tkV 9 (v := ?_) hS ?_ ?_; rotate_left 1; · (intro w0 hSw; (try dsimp only at hSw); go_split_ands; go_simp; try with_reducible rfl)) | fail
  try simp only [Act.put, pL]
  first | refine tkU 10 hS ?_ | (refine tkV 10 (v := ?_) hS ?_ ?_; rotate_left 1; · (intro w0 hSw; (try dsimp only at hSw); go_split_ands; go_simp; try with_reducible rfl)) | fail
  try simp only [Act.put, pL]
  refine wpAnyH_ready (rs := [11]) (by kernel_rfl) (by simp) ?_
  refine AllReadyH.cons rfl (fun K hK => ?_) AllReadyH.nil
  go_simp
  refine (CK.out _ HB11.out).mono ?_
  rintro e w12 ⟨rfl, hb⟩
  have HB12 := Aside0.mk (below_then HB11.out HB11.out.size hb)
  clear hb hS
  have hS := HS.out _ HB12.out
  refine hK.out _ _ hS (fun _ => ?_)
  clear hK K
  try simp only [Act.put, pL]
  first | refine tkU 12 hS ?_ | (refine tkV 12 (v := ?_) hS ?_ ?_; rotate_left 1; · (intro w0 hSw; (try dsimp only at hSw); go_split_ands; go_simp; try with_reducible rfl)) | fail
  try simp only [Act.put, pL]
  first | refine tkU 13 hS ?_ | (refine tkV 13 (v := ?_) hS ?_ ?_; rotate_left 1; · (intro w0 hSw; (try dsimp only at hSw); go_split_ands; go_simp; try with_reducible rfl)) | fail
  try simp only [Act.put, pL]
  refine wpAnyH_done (by kernel_rfl) ?_ _
  go_wp2_with fail
  go_ret
  exact ⟨rfl, HB0.out.trans (HB12.out.mono HB0.out.size)⟩
set_option maxRecDepth 100000 in
set_option maxHeartbeats 8000000 in
theorem tells_no (p q : Pth) (hb1 : bigP p 0 = false) (hb2 : bigP q 0 = false) (hi : isP p = false) (w : World) (k : Int) (t : ByteArray) (A : Option Addr) (n c : Nat) (B : Option Addr) (m e : Nat) (hp : PathAt w anyB p [.int .i64 k, .string t, .slice A n c, .slice B m e]) (k2 : Int) (t2 : ByteArray) (A2 : Option Addr) (n2 c2 : Nat) (B2 : Option Addr) (m2 e2 : Nat) (hq : PathAt w anyB q [.int .i64 k2, .string t2, .slice A2 n2 c2, .slice B2 m2 e2]) (hT : Tabs w) :
    Calls Tryd.prog 9 #[.agg #[.int .i64 k, .string t, .slice A n c, .slice B m e], .agg #[.int .i64 k2, .string t2, .slice A2 n2 c2, .slice B2 m2 e2]] w fun e w' => e = .returned (.bool true) ∧ Below w.heap.size w w' := by
  obtain ⟨w0, hw0, HA0, HN0⟩ := boxP w k t A n c B m e
  obtain ⟨w1, hw1, HA1, HN1⟩ := boxP w0 k2 t2 A2 n2 c2 B2 m2 e2
  have hz0 : w0.heap.size = w.heap.size + 1 := by rw [hw0]; simp
  have HHW : Aside0 ((w.alloc (.cells #[.int .i64 k, .string t, .slice A n c, .slice B m e] 25)).alloc (.cells #[.int .i64 k2, .string t2, .slice A2 n2 c2, .slice B2 m2 e2] 25) = w1) := ⟨by rw [hw1, hw0]⟩
  have HNP := Aside0.mk (blk_below HN0.out HA1.out)
  rw [hz0] at HN1
  have HB0 : Aside0 (Below w.heap.size w w1) := ⟨HA0.out.trans (HA1.out.mono HA0.out.size)⟩
  have HP : Aside0 (∀ W, Below w1.heap.size w1 W → PathAt W anyB p [.int .i64 k, .string t, .slice A n c, .slice B m e]) := ⟨fun W h => (PathAt.below hp HB0.out).below h⟩
  have HQ : Aside0 (∀ W, Below w1.heap.size w1 W → PathAt W anyB q [.int .i64 k2, .string t2, .slice A2 n2 c2, .slice B2 m2 e2]) := ⟨fun W h => (PathAt.below hq HB0.out).below h⟩
  have HT : Aside0 (∀ W, Below w1.heap.size w1 W → Tabs W) := ⟨fun W h => (hT.below HB0.out).below h⟩
  have HS : Aside0 (∀ W, Below w1.heap.size w1 W → (fun W : World => W.cell? ⟨w.heap.size, 0, none⟩ = some (.int .i64 k) ∧ W.cell? ⟨w.heap.size, 1, none⟩ = some (.string t) ∧ W.cell? ⟨w.heap.size, 2, none⟩ = some (.slice A n c) ∧ W.cell? ⟨w.heap.size, 3, none⟩ = some (.slice B m e) ∧ W.cell? ⟨w.heap.size + 1, 0, none⟩ = some (.int .i64 k2) ∧ W.cell? ⟨w.heap.size + 1, 1, none⟩ = some (.string t2) ∧ W.cell? ⟨w.heap.size + 1, 2, none⟩ = some (.slice A2 n2 c2) ∧ W.cell? ⟨w.heap.size + 1, 3, none⟩ = some (.slice B2 m2 e2)) W) := ⟨fun W h => ⟨(blk_cell (blk_below HNP.out h) 0).trans rfl, (blk_cell (blk_below HNP.out h) 1).trans rfl, (blk_cell (blk_below HNP.out h) 2).trans rfl, (blk_cell (blk_below HNP.out h) 3).trans rfl, (blk_cell (blk_below HN1.out h) 0).trans rfl, (blk_cell (blk_below HN1.out h) 1).trans rfl, (blk_cell (blk_below HN1.out h) 2).trans rfl, (blk_cell (blk_below HN1.out h) 3).trans rfl⟩⟩
  have HB1 : Aside0 (Below w1.heap.size w1 w1) := ⟨Below.refl _ _⟩
  clear hw0 hw1 hz0 hp hq hT
  have C1 : Aside0 (∀ W, Below w1.heap.size w1 W → Calls Tryd.prog 23 #[.agg #[.int .i64 k, .string t, .slice A n c, .slice B m e], .int .i64 0] W fun e w' => e = .returned (.bool false) ∧ Below W.heap.size W w') := ⟨fun W h => by
    have := big_any p 0 (by decide) W anyB _ _ _ _ _ _ _ _ (HP.out W h)
    rw [hb1] at this
    exact this⟩
  have C2 : Aside0 (∀ W, Below w1.heap.size w1 W → Calls Tryd.prog 23 #[.agg #[.int .i64 k2, .string t2, .slice A2 n2 c2, .slice B2 m2 e2], .int .i64 0] W fun e w' => e = .returned (.bool false) ∧ Below W.heap.size W w') := ⟨fun W h => by
    have := big_any q 0 (by decide) W anyB _ _ _ _ _ _ _ _ (HQ.out W h)
    rw [hb2] at this
    exact this⟩
  have CI : Aside0 (∀ W, Below w1.heap.size w1 W → Calls Tryd.prog 32 #[.agg #[.int .i64 k, .string t, .slice A n c, .slice B m e]] W fun e w' => e = .returned (.bool false) ∧ Below W.heap.size W w') := ⟨fun W h => by
    have := is_path p hb1 W anyB _ _ _ _ _ _ _ _ (HP.out W h) (HT.out W h)
    rwa [hi] at this⟩
  have CJ : Aside0 (∀ W, Below w1.heap.size w1 W → Calls Tryd.prog 24 #[.agg #[.int .i64 k, .string t, .slice A n c, .slice B m e]] W fun e w' => e = .returned (.bool false) ∧ Below W.heap.size W w') := ⟨fun W h => by
    have := refIs_path p hb1 W anyB _ _ _ _ _ _ _ _ (HP.out W h) (HT.out W h)
    rwa [hi] at this⟩
  obtain ⟨s, hs⟩ : ∃ s, sameP p q = s := ⟨_, rfl⟩
  have CE : Aside0 (∀ W, Below w1.heap.size w1 W → Calls Tryd.prog 31 #[.agg #[.int .i64 k, .string t, .slice A n c, .slice B m e], .agg #[.int .i64 k2, .string t2, .slice A2 n2 c2, .slice B2 m2 e2]] W fun e w' => e = .returned (.bool s) ∧ Below W.heap.size W w') := ⟨fun W h => by
    have := same_any p q W anyB anyB _ _ _ _ _ _ _ _ _ _ _ _ _ _ _ _ (HP.out W h) (HQ.out W h)
    rwa [hs] at this⟩
  have CF : Aside0 (∀ W, Below w1.heap.size w1 W → Calls Tryd.prog 29 #[.agg #[.int .i64 k, .string t, .slice A n c, .slice B m e], .agg #[.int .i64 k2, .string t2, .slice A2 n2 c2, .slice B2 m2 e2]] W fun e w' => e = .returned (.bool s) ∧ Below W.heap.size W w') := ⟨fun W h => by
    have := refSame_any p q W anyB anyB _ _ _ _ _ _ _ _ _ _ _ _ _ _ _ _ (HP.out W h) (HQ.out W h)
    rwa [hs] at this⟩
  have CG : Aside0 (∀ W, Below w1.heap.size w1 W → Calls Tryd.prog 31 #[.agg #[.int .i64 k, .string t, .slice A n c, .slice B m e], .agg #[.int .i64 k, .string t, .slice A n c, .slice B m e]] W fun e w' => e = .returned (.bool true) ∧ Below W.heap.size W w') := ⟨fun W h => by
    have := same_any p p W anyB anyB _ _ _ _ _ _ _ _ _ _ _ _ _ _ _ _ (HP.out W h) (HP.out W h)
    rwa [same_yes rfl] at this⟩
  have CK : Aside0 (∀ W, Below w1.heap.size w1 W → Calls Tryd.prog 28 #[] W fun e w' => e = .returned (.bool true) ∧ Below W.heap.size W w') := ⟨fun W h => by
    exact known_any W (HT.out W h)⟩
  clear hb1 hb2 hi hs
  go_enter Tryd.func9, Tryd.ntmps9
  go_upto_region 1 with (fail)
  rw [HHW.out]
  obtain ⟨q0, q1, q2, q3, r0, r1, r2, r3⟩ := HS.out _ HB1.out
  go_upto_region 3 with (first
    | (go_at_call 23; (with_reducible refine (C1.out _ HB1.out).mono ?_); rintro e w2 ⟨rfl, hb⟩; have HB2 := Aside0.mk (below_then HB1.out HB1.out.size hb); clear hb q0 q1 q2 q3 r0 r1 r2 r3; obtain ⟨q0, q1, q2, q3, r0, r1, r2, r3⟩ := HS.out _ HB2.out)
    | (go_at_call 23; (with_reducible refine (C2.out _ HB2.out).mono ?_); rintro e w3 ⟨rfl, hb⟩; have HB3 := Aside0.mk (below_then HB2.out HB2.out.size hb); clear hb q0 q1 q2 q3 r0 r1 r2 r3; obtain ⟨q0, q1, q2, q3, r0, r1, r2, r3⟩ := HS.out _ HB3.out))
  clear q0 q1 q2 q3 r0 r1 r2 r3
  have hS : (fun W : World => W.cell? ⟨w.heap.size, 0, none⟩ = some (.int .i64 k) ∧ W.cell? ⟨w.heap.size, 1, none⟩ = some (.string t) ∧ W.cell? ⟨w.heap.size, 2, none⟩ = some (.slice A n c) ∧ W.cell? ⟨w.heap.size, 3, none⟩ = some (.slice B m e) ∧ W.cell? ⟨w.heap.size + 1, 0, none⟩ = some (.int .i64 k2) ∧ W.cell? ⟨w.heap.size + 1, 1, none⟩ = some (.string t2) ∧ W.cell? ⟨w.heap.size + 1, 2, none⟩ = some (.slice A2 n2 c2) ∧ W.cell? ⟨w.heap.size + 1, 3, none⟩ = some (.slice B2 m2 e2)) w3.drew := HS.out _ (below_drew HB3.out)
  refine wp_region_held (S := (fun W : World => W.cell? ⟨w.heap.size, 0, none⟩ = some (.int .i64 k) ∧ W.cell? ⟨w.heap.size, 1, none⟩ = some (.string t) ∧ W.cell? ⟨w.heap.size, 2, none⟩ = some (.slice A n c) ∧ W.cell? ⟨w.heap.size, 3, none⟩ = some (.slice B m e) ∧ W.cell? ⟨w.heap.size + 1, 0, none⟩ = some (.int .i64 k2) ∧ W.cell? ⟨w.heap.size + 1, 1, none⟩ = some (.string t2) ∧ W.cell? ⟨w.heap.size + 1, 2, none⟩ = some (.slice A2 n2 c2) ∧ W.cell? ⟨w.heap.size + 1, 3, none⟩ = some (.slice B2 m2 e2))) (by kernel_rfl) ?_
  change wpAnyH _ _ _ _ _ _ _ _ w3.drew
  first | refine tkU 0 hS ?_ | (refine tkV 0 (v := ?_) hS ?_ ?_; rotate_left 1; · (intro w0 hSw; (try dsimp only at hSw); go_split_ands; go_simp; try with_reducible rfl)) | fail
  try simp only [Act.put, pL]
  first | refine tkU 2 hS ?_ | (refine tkV 2 (v := ?_) hS ?_ ?_; rotate_left 1; · (intro w0 hSw; (try dsimp only at hSw); go_split_ands; go_simp; try with_reducible rfl)) | fail
  try simp only [Act.put, pL]
  refine wpAnyH_ready (rs := [1]) (by kernel_rfl) (by simp) ?_
  refine AllReadyH.cons rfl (fun K hK => ?_) AllReadyH.nil
  go_simp
  refine (CI.out _ (below_drew HB3.out)).mono ?_
  rintro e w4 ⟨rfl, hb⟩
  have HB4 := Aside0.mk (below_then (below_drew HB3.out) (below_drew HB3.out).size hb)
  clear hb hS
  have hS := HS.out _ HB4.out
  refine hK.out _ _ hS (fun _ => ?_)
  clear hK K
  try simp only [Act.put, pL]
  refine wpAnyH_ready (rs := [3]) (by kernel_rfl) (by simp) ?_
  refine AllReadyH.cons rfl (fun K hK => ?_) AllReadyH.nil
  go_simp
  refine (CJ.out _ HB4.out).mono ?_
  rintro e w5 ⟨rfl, hb⟩
  have HB5 := Aside0.mk (below_then HB4.out HB4.out.size hb)
  clear hb hS
  have hS := HS.out _ HB5.out
  refine hK.out _ _ hS (fun _ => ?_)
  clear hK K
  try simp only [Act.put, pL]
  first | refine tkU 4 hS ?_ | (refine tkV 4 (v := ?_) hS ?_ ?_; rotate_left 1; · (intro w0 hSw; (try dsimp only at hSw); go_split_ands; go_simp; try with_reducible rfl)) | fail
  try simp only [Act.put, pL]
  first | refine tkU 5 hS ?_ | (refine tkV 5 (v := ?_) hS ?_ ?_; rotate_left 1; · (intro w0 hSw; (try dsimp only at hSw); go_split_ands; go_simp; try with_reducible rfl)) | fail
  try simp only [Act.put, pL]
  first | refine tkU 6 hS ?_ | (refine tkV 6 (v := ?_) hS ?_ ?_; rotate_left 1; · (intro w0 hSw; (try dsimp only at hSw); go_split_ands; go_simp; try with_reducible rfl)) | fail
  try simp only [Act.put, pL]
  first | refine tkU 7 hS ?_ | (refine tkV 7 (v := ?_) hS ?_ ?_; rotate_left 1; · (intro w0 hSw; (try dsimp only at hSw); go_split_ands; go_simp; try with_reducible rfl)) | fail
  try simp only [Act.put, pL]
  first | refine tkU 9 hS ?_ | (refine tkV 9 (v := ?_) hS ?_ ?_; rotate_left 1; · (intro w0 hSw; (try dsimp only at hSw); go_split_ands; go_simp; try with_reducible rfl)) | fail
  try simp only [Act.put, pL]
  first | refine tkU 10 hS ?_ | (refine tkV 10 (v := ?_) hS ?_ ?_; rotate_left 1; · (intro w0 hSw; (try dsimp only at hSw); go_split_ands; go_simp; try with_reducible rfl)) | fail
  try simp only [Act.put, pL]
  refine wpAnyH_ready (rs := [8]) (by kernel_rfl) (by simp) ?_
  refine AllReadyH.cons rfl (fun K hK => ?_) AllReadyH.nil
  go_simp
  refine (CE.out _ HB5.out).mono ?_
  rintro e w6 ⟨rfl, hb⟩
  have HB6 := Aside0.mk (below_then HB5.out HB5.out.size hb)
  clear hb hS
  have hS := HS.out _ HB6.out
  refine hK.out _ _ hS (fun _ => ?_)
  clear hK K
  try simp only [Act.put, pL]
  refine wpAnyH_ready (rs := [11]) (by kernel_rfl) (by simp) ?_
  refine AllReadyH.cons rfl (fun K hK => ?_) AllReadyH.nil
  go_simp
  refine (CF.out _ HB6.out).mono ?_
  rintro e w7 ⟨rfl, hb⟩
  have HB7 := Aside0.mk (below_then HB6.out HB6.out.size hb)
  clear hb hS
  have hS := HS.out _ HB7.out
  refine hK.out _ _ hS (fun _ => ?_)
  clear hK K
  try simp only [Act.put, pL]
  first | refine tkU 12 hS ?_ | (refine tkV 12 (v := ?_) hS ?_ ?_; rotate_left 1; · (intro w0 hSw; (try dsimp only at hSw); go_split_ands; go_simp; try with_reducible rfl)) | fail
  try simp only [Act.put, pL]
  first | refine tkU 13 hS ?_ | (refine tkV 13 (v := ?_) hS ?_ ?_; rotate_left 1; · (intro w0 hSw; (try dsimp only at hSw); go_split_ands; go_simp; try with_reducible rfl)) | fail
  try simp only [Act.put, pL]
  first | refine tkU 14 hS ?_ | (refine tkV 14 (v := ?_) hS ?_ ?_; rotate_left 1; · (intro w0 hSw; (try dsimp only at hSw); go_split_ands; go_simp; try with_reducible rfl)) | fail
  try simp only [Act.put, pL]
  first | refine tkU 15 hS ?_ | (refine tkV 15 (v := ?_) hS ?_ ?_; rotate_left 1; · (intro w0 hSw; (try dsimp only at hSw); go_split_ands; go_simp; try with_reducible rfl)) | fail
  try simp only [Act.put, pL]
  first | refine tkU 16 hS ?_ | (refine tkV 16 (v := ?_) hS ?_ ?_; rotate_left 1; · (intro w0 hSw; (try dsimp only at hSw); go_split_ands; go_simp; try with_reducible rfl)) | fail
  try simp only [Act.put, pL]
  refine wpAnyH_ready (rs := [17]) (by kernel_rfl) (by simp) ?_
  refine AllReadyH.cons rfl (fun K hK => ?_) AllReadyH.nil
  go_simp
  refine (CG.out _ HB7.out).mono ?_
  rintro e w8 ⟨rfl, hb⟩
  have HB8 := Aside0.mk (below_then HB7.out HB7.out.size hb)
  clear hb hS
  have hS := HS.out _ HB8.out
  refine hK.out _ _ hS (fun _ => ?_)
  clear hK K
  try simp only [Act.put, pL]
  first | refine tkU 18 hS ?_ | (refine tkV 18 (v := ?_) hS ?_ ?_; rotate_left 1; · (intro w0 hSw; (try dsimp only at hSw); go_split_ands; go_simp; try with_reducible rfl)) | fail
  try simp only [Act.put, pL]
  first | refine tkU 19 hS ?_ | (refine tkV 19 (v := ?_) hS ?_ ?_; rotate_left 1; · (intro w0 hSw; (try dsimp only at hSw); go_split_ands; go_simp; try with_reducible rfl)) | fail
  try simp only [Act.put, pL]
  refine wpAnyH_done (by kernel_rfl) ?_ _
  obtain ⟨q0, q1, q2, q3, r0, r1, r2, r3⟩ := hS
  go_upto_region 5 with (fail)
  clear q0 q1 q2 q3 r0 r1 r2 r3
  have hS : (fun W : World => W.cell? ⟨w.heap.size, 0, none⟩ = some (.int .i64 k) ∧ W.cell? ⟨w.heap.size, 1, none⟩ = some (.string t) ∧ W.cell? ⟨w.heap.size, 2, none⟩ = some (.slice A n c) ∧ W.cell? ⟨w.heap.size, 3, none⟩ = some (.slice B m e) ∧ W.cell? ⟨w.heap.size + 1, 0, none⟩ = some (.int .i64 k2) ∧ W.cell? ⟨w.heap.size + 1, 1, none⟩ = some (.string t2) ∧ W.cell? ⟨w.heap.size + 1, 2, none⟩ = some (.slice A2 n2 c2) ∧ W.cell? ⟨w.heap.size + 1, 3, none⟩ = some (.slice B2 m2 e2)) w8.drew := HS.out _ (below_drew HB8.out)
  refine wp_region_held (S := (fun W : World => W.cell? ⟨w.heap.size, 0, none⟩ = some (.int .i64 k) ∧ W.cell? ⟨w.heap.size, 1, none⟩ = some (.string t) ∧ W.cell? ⟨w.heap.size, 2, none⟩ = some (.slice A n c) ∧ W.cell? ⟨w.heap.size, 3, none⟩ = some (.slice B m e) ∧ W.cell? ⟨w.heap.size + 1, 0, none⟩ = some (.int .i64 k2) ∧ W.cell? ⟨w.heap.size + 1, 1, none⟩ = some (.string t2) ∧ W.cell? ⟨w.heap.size + 1, 2, none⟩ = some (.slice A2 n2 c2) ∧ W.cell? ⟨w.heap.size + 1, 3, none⟩ = some (.slice B2 m2 e2))) (by kernel_rfl) ?_
  change wpAnyH _ _ _ _ _ _ _ _ w8.drew
  first | refine tkU 0 hS ?_ | (refine tkV 0 (v := ?_) hS ?_ ?_; rotate_left 1; · (intro w0 hSw; (try dsimp only at hSw); go_split_ands; go_simp; try with_reducible rfl)) | fail
  try simp only [Act.put, pL]
  refine wpAnyH_ready (rs := [1]) (by kernel_rfl) (by simp) ?_
  refine AllReadyH.cons rfl (fun K hK => ?_) AllReadyH.nil
  go_simp
  refine (CJ.out _ (below_drew HB8.out)).mono ?_
  rintro e w9 ⟨rfl, hb⟩
  have HB9 := Aside0.mk (below_then (below_drew HB8.out) (below_drew HB8.out).size hb)
  clear hb hS
  have hS := HS.out _ HB9.out
  refine hK.out _ _ hS (fun _ => ?_)
  clear hK K
  try simp only [Act.put, pL]
  first | refine tkU 2 hS ?_ | (refine tkV 2 (v := ?_) hS ?_ ?_; rotate_left 1; · (intro w0 hSw; (try dsimp only at hSw); go_split_ands; go_simp; try with_reducible rfl)) | fail
  try simp only [Act.put, pL]
  first | refine tkU 3 hS ?_ | (refine tkV 3 (v := ?_) hS ?_ ?_; rotate_left 1; · (intro w0 hSw; (try dsimp only at hSw); go_split_ands; go_simp; try with_reducible rfl)) | fail
  try simp only [Act.put, pL]
  first | refine tkU 4 hS ?_ | (refine tkV 4 (v := ?_) hS ?_ ?_; rotate_left 1; · (intro w0 hSw; (try dsimp only at hSw); go_split_ands; go_simp; try with_reducible rfl)) | fail
  try simp only [Act.put, pL]
  first | refine tkU 5 hS ?_ | (refine tkV 5 (v := ?_) hS ?_ ?_; rotate_left 1; · (intro w0 hSw; (try dsimp only at hSw); go_split_ands; go_simp; try with_reducible rfl)) | fail
  try simp only [Act.put, pL]
  first | refine tkU 6 hS ?_ | (refine tkV 6 (v := ?_) hS ?_ ?_; rotate_left 1; · (intro w0 hSw; (try dsimp only at hSw); go_split_ands; go_simp; try with_reducible rfl)) | fail
  try simp only [Act.put, pL]
  first | refine tkU 7 hS ?_ | (refine tkV 7 (v := ?_) hS ?_ ?_; rotate_left 1; · (intro w0 hSw; (try dsimp only at hSw); go_split_ands; go_simp; try with_reducible rfl)) | fail
  try simp only [Act.put, pL]
  first | refine tkU 8 hS ?_ | (refine tkV 8 (v := ?_) hS ?_ ?_; rotate_left 1; · (intro w0 hSw; (try dsimp only at hSw); go_split_ands; go_simp; try with_reducible rfl)) | fail
  try simp only [Act.put, pL]
  first | refine tkU 9 hS ?_ | (refine tkV 9 (v := ?_) hS ?_ ?_; rotate_left 1; · (intro w0 hSw; (try dsimp only at hSw); go_split_ands; go_simp; try with_reducible rfl)) | fail
  try simp only [Act.put, pL]
  first | refine tkU 10 hS ?_ | (refine tkV 10 (v := ?_) hS ?_ ?_; rotate_left 1; · (intro w0 hSw; (try dsimp only at hSw); go_split_ands; go_simp; try with_reducible rfl)) | fail
  try simp only [Act.put, pL]
  refine wpAnyH_ready (rs := [11]) (by kernel_rfl) (by simp) ?_
  refine AllReadyH.cons rfl (fun K hK => ?_) AllReadyH.nil
  go_simp
  refine (CK.out _ HB9.out).mono ?_
  rintro e w12 ⟨rfl, hb⟩
  have HB12 := Aside0.mk (below_then HB9.out HB9.out.size hb)
  clear hb hS
  have hS := HS.out _ HB12.out
  refine hK.out _ _ hS (fun _ => ?_)
  clear hK K
  try simp only [Act.put, pL]
  first | refine tkU 12 hS ?_ | (refine tkV 12 (v := ?_) hS ?_ ?_; rotate_left 1; · (intro w0 hSw; (try dsimp only at hSw); go_split_ands; go_simp; try with_reducible rfl)) | fail
  try simp only [Act.put, pL]
  first | refine tkU 13 hS ?_ | (refine tkV 13 (v := ?_) hS ?_ ?_; rotate_left 1; · (intro w0 hSw; (try dsimp only at hSw); go_split_ands; go_simp; try with_reducible rfl)) | fail
  try simp only [Act.put, pL]
  refine wpAnyH_done (by kernel_rfl) ?_ _
  go_wp2_with fail
  go_ret
  exact ⟨rfl, HB0.out.trans (HB12.out.mono HB0.out.size)⟩
theorem tells_law (p : Pth) (cs : List Value) (q : Pth) (ds : List Value) (w : World) (hp : PathAt w anyB p cs) (hq : PathAt w anyB q ds) (hT : Tabs w) : Calls Tryd.prog 9 #[.agg cs.toArray, .agg ds.toArray] w fun e w' => e = .returned (.bool true) ∧ Below w.heap.size w w' := by
  obtain ⟨k, t, ts, ks⟩ := p
  obtain ⟨A, c, B, d, rfl, -⟩ := path_cells hp
  obtain ⟨k2, t2, ts2, ks2⟩ := q
  obtain ⟨A2, c2, B2, d2, rfl, -⟩ := path_cells hq
  by_cases hb : bigP (.mk k t ts ks) 0 = true
  · exact tells_big1 _ _ hb w _ _ _ _ _ _ _ _ hp _ _ _ _ _ _ _ _ hq hT
  have hb := Bool.not_eq_true _ |>.mp hb
  by_cases hb2 : bigP (.mk k2 t2 ts2 ks2) 0 = true
  · exact tells_big2 _ _ hb hb2 w _ _ _ _ _ _ _ _ hp _ _ _ _ _ _ _ _ hq hT
  have hb2 := Bool.not_eq_true _ |>.mp hb2
  cases hi : isP (.mk k t ts ks) with
  | false => exact tells_no _ _ hb hb2 hi w _ _ _ _ _ _ _ _ hp _ _ _ _ _ _ _ _ hq hT
  | true => exact tells_yes _ _ hb hb2 hi w _ _ _ _ _ _ _ _ hp _ _ _ _ _ _ _ _ hq hT
end Go.Proofs.YtbaegfjoionojaaDoor.Qy
