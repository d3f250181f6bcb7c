/- The law QueryBlanks: blanks between a path's signs change nothing. -/
import Derived.Test.YtbaegfjoionojaaDoorQyO
import Derived.Test.YtbaegfjoionojaaDoorQyZ
import Derived.Test.YtbaegfjoionojaaDoorQrH
import Derived.Test.YtbaegfjoionojaaDoorQrJ
import Derived.Test.YtbaegfjoionojaaDoorQyS
import Derived.Test.YtbaegfjoionojaaDoorQyN
set_option linter.unusedSimpArgs false
set_option linter.unusedVariables false
namespace Go.Proofs.YtbaegfjoionojaaDoor.Qy
open Go Go.RowKit Go.Proofs.YtbaegfjoionojaaDoor.Tm Go.Proofs.YtbaegfjoionojaaDoorW.PrintWords

theorem blank_step {s a : ByteArray} {wi : Bool} {i : Nat} {c : UInt8} (h : a.data.toList = 32 :: blankF false (s.data.toList.take i)) (hst : stF false (s.data.toList.take i) = wi) (hc : s.data.toList[i]? = some c) :
    32 :: blankF false (s.data.toList.take (i + 1)) = a.data.toList ++ c :: bl wi c ∧ stF false (s.data.toList.take (i + 1)) = wIn wi c := by
  obtain ⟨hi, e⟩ := List.getElem?_eq_some_iff.1 hc
  rw [List.take_succ_eq_append_getElem hi, e, blank_app, st_app, hst, h]
  exact ⟨by simp [blankF], rfl⟩
theorem byte_one {s : ByteArray} {i : Nat} (h : i < s.size) : ∃ c : UInt8, s.data.toList[i]? = some c ∧ c.toNat = byteAt s i ∧ (s.extract i (i + 1)).data.toList = [c] := by
  refine ⟨s.get! i, byteAt_get s i h, rfl, ?_⟩
  have hl : i < s.data.toList.length := by have := size_list s; omega
  have := byteAt_get s i h
  rw [List.getElem?_eq_getElem hl] at this
  rw [ext_mid, Nat.add_sub_cancel_left, List.drop_eq_getElem_cons hl, Option.some.inj this]
  rfl
theorem ba_list {a b : ByteArray} (h : a.data.toList = b.data.toList) : a = b := ba_ext h
theorem app_list (a b : ByteArray) : (a ++ b).data.toList = a.data.toList ++ b.data.toList := by
  rw [ByteArray.data_append, Array.toList_append]
theorem in_60 (wi : Bool) {c : UInt8} (h : c.toNat = 60) : wIn wi c = true ∧ bl wi c = [] := by
  obtain rfl : c = 60 := UInt8.toNat_inj.1 h
  cases wi <;> exact ⟨rfl, rfl⟩
theorem in_yes {c : UInt8} (h1 : c.toNat ≠ 60) (h2 : c.toNat ≠ 62) : wIn true c = true ∧ bl true c = [] := by
  have e : wIn true c = true := by
    unfold wIn
    rw [show (c != 62) = true by rw [bne_iff_ne]; intro h; rw [h] at h2; exact h2 rfl]
    simp
  exact ⟨e, by unfold bl; rw [e]; rfl⟩
theorem in_62 {c : UInt8} (h : c.toNat = 62) : wIn true c = false ∧ bl true c = [32, 32] := by
  obtain rfl : c = 62 := UInt8.toNat_inj.1 h
  exact ⟨rfl, rfl⟩
theorem in_33 {c : UInt8} (h : c.toNat = 33) : wIn false c = false ∧ bl false c = [] := by
  obtain rfl : c = 33 := UInt8.toNat_inj.1 h
  exact ⟨rfl, rfl⟩
theorem in_out {c : UInt8} (h1 : c.toNat ≠ 60) (h2 : c.toNat ≠ 33) : wIn false c = false ∧ bl false c = [32, 32] := by
  have e : wIn false c = false := by
    unfold wIn
    rw [show (c == 60) = false by rw [beq_eq_false_iff_ne]; intro h; rw [h] at h1; exact h1 rfl]
    rfl
  refine ⟨e, ?_⟩
  unfold bl
  rw [e, show (c != 33) = true by rw [bne_iff_ne]; intro h; rw [h] at h2; exact h2 rfl]
  rfl
set_option maxRecDepth 100000 in
set_option maxHeartbeats 8000000 in
theorem blanks_big (p : Pth) (hbig : bigP p 0 = true) (w : World) (k : Int) (t : ByteArray) (A : Option Addr) (n c : Nat) (B : Option Addr) (m e : Nat) (hp : PathAt w anyB p [.int .i64 k, .string t, .slice A n c, .slice B m e]) (hT : Tabs w) :
    Calls Tryd.prog 4 #[.agg #[.int .i64 k, .string t, .slice A n c, .slice B m e]] w fun e w' => e = .returned (.bool true) ∧ Below w.heap.size w w' := by
  obtain ⟨w0, hw0, HB0, HN0⟩ := boxP w k t A n c B m e
  have HHW : Aside0 (w.alloc (.cells #[.int .i64 k, .string t, .slice A n c, .slice B m e] 25) = w0) := ⟨hw0.symm⟩
  have HP0 := Aside0.mk (PathAt.below hp HB0.out)
  have HT0 := Aside0.mk (hT.below HB0.out)
  clear hw0 hp hT
  have CB : Aside0 (∀ W, PathAt W anyB p [.int .i64 k, .string t, .slice A n c, .slice B m e] → Calls Tryd.prog 23 #[.agg #[.int .i64 k, .string t, .slice A n c, .slice B m e], .int .i64 0] W fun e w' => e = .returned (.bool true) ∧ Below W.heap.size W w') := ⟨fun W hW => by
    have := big_any p 0 (by decide) W anyB k t A n c B m e hW
    rw [hbig] at this
    exact this⟩
  go_enter Tryd.func4, Tryd.ntmps4
  go_upto_region 1 with (fail)
  rw [HHW.out]
  have q0 := blk_cell HN0.out 0; have q1 := blk_cell HN0.out 1; have q2 := blk_cell HN0.out 2; have q3 := blk_cell HN0.out 3; simp at q0 q1 q2 q3
  go_wp2_with (go_at_call 23; (with_reducible refine (CB.out _ HP0.out).mono ?_); rintro e w1 ⟨rfl, hb⟩; have HB1 := Aside0.mk (below_then HB0.out HB0.out.size hb); have HP1 := Aside0.mk (PathAt.below HP0.out hb); have HT1 := Aside0.mk (HT0.out.below hb); have HN1 := Aside0.mk (blk_below HN0.out hb); clear q0 q1 q2 q3; have q0 := blk_cell HN1.out 0; have q1 := blk_cell HN1.out 1; have q2 := blk_cell HN1.out 2; have q3 := blk_cell HN1.out 3; simp at q0 q1 q2 q3; clear hb)
  go_ret
  exact ⟨rfl, HB1.out⟩
set_option maxRecDepth 100000 in
set_option maxHeartbeats 8000000 in
theorem blanks_not (p : Pth) (hbig : bigP p 0 = false) (hi : isP p = false) (w : World) (k : Int) (t : ByteArray) (A : Option Addr) (n c : Nat) (B : Option Addr) (m e : Nat) (hp : PathAt w anyB p [.int .i64 k, .string t, .slice A n c, .slice B m e]) (hT : Tabs w) :
    Calls Tryd.prog 4 #[.agg #[.int .i64 k, .string t, .slice A n c, .slice B m e]] w fun e w' => e = .returned (.bool true) ∧ Below w.heap.size w w' := by
  obtain ⟨w0, hw0, HB0, HN0⟩ := boxP w k t A n c B m e
  have HHW : Aside0 (w.alloc (.cells #[.int .i64 k, .string t, .slice A n c, .slice B m e] 25) = w0) := ⟨hw0.symm⟩
  have HP0 := Aside0.mk (PathAt.below hp HB0.out)
  have HT0 := Aside0.mk (hT.below HB0.out)
  clear hw0 hp hT
  have CB : Aside0 (∀ W, PathAt W anyB p [.int .i64 k, .string t, .slice A n c, .slice B m e] → Calls Tryd.prog 23 #[.agg #[.int .i64 k, .string t, .slice A n c, .slice B m e], .int .i64 0] W fun e w' => e = .returned (.bool false) ∧ Below W.heap.size W w') := ⟨fun W hW => by
    have := big_any p 0 (by decide) W anyB k t A n c B m e hW
    rw [hbig] at this
    exact this⟩
  have CI : Aside0 (∀ W, PathAt W anyB p [.int .i64 k, .string t, .slice A n c, .slice B m e] → Tabs W → Calls Tryd.prog 24 #[.agg #[.int .i64 k, .string t, .slice A n c, .slice B m e]] W fun e w' => e = .returned (.bool false) ∧ Below W.heap.size W w') := ⟨fun W hW h => by
    have := refIs_path p hbig W anyB k t A n c B m e hW h
    rwa [hi] at this⟩
  go_enter Tryd.func4, Tryd.ntmps4
  go_upto_region 1 with (fail)
  rw [HHW.out]
  have q0 := blk_cell HN0.out 0; have q1 := blk_cell HN0.out 1; have q2 := blk_cell HN0.out 2; have q3 := blk_cell HN0.out 3; simp at q0 q1 q2 q3
  go_wp2_with (first
    | (go_at_call 23; (with_reducible refine (CB.out _ HP0.out).mono ?_); rintro e w1 ⟨rfl, hb⟩; have HB1 := Aside0.mk (below_then HB0.out HB0.out.size hb); have HP1 := Aside0.mk (PathAt.below HP0.out hb); have HT1 := Aside0.mk (HT0.out.below hb); have HN1 := Aside0.mk (blk_below HN0.out hb); clear q0 q1 q2 q3; have q0 := blk_cell HN1.out 0; have q1 := blk_cell HN1.out 1; have q2 := blk_cell HN1.out 2; have q3 := blk_cell HN1.out 3; simp at q0 q1 q2 q3; clear hb)
    | (go_at_call 24; (with_reducible refine (CI.out _ HP1.out HT1.out).mono ?_); rintro e w2 ⟨rfl, hb⟩; have HB2 := Aside0.mk (below_then HB1.out HB1.out.size hb); have HP2 := Aside0.mk (PathAt.below HP1.out hb); have HT2 := Aside0.mk (HT1.out.below hb); have HN2 := Aside0.mk (blk_below HN1.out hb); clear q0 q1 q2 q3; have q0 := blk_cell HN2.out 0; have q1 := blk_cell HN2.out 1; have q2 := blk_cell HN2.out 2; have q3 := blk_cell HN2.out 3; simp at q0 q1 q2 q3; clear hb))
  go_ret
  exact ⟨rfl, HB2.out⟩
set_option maxRecDepth 100000 in
set_option maxHeartbeats 8000000 in
theorem blanks_long (p : Pth) (hbig : bigP p 0 = false) (hi : isP p = true) (p1 : Pth) (nn : Nat) (er : Int) (hl : 600 < (blankB (showB p)).size) (h1 : readS (showB p) = (p1, nn, er)) (h2 : readS (blankB (showB p)) = (noP, 0, 4)) (w : World) (k : Int) (t : ByteArray) (A : Option Addr) (n c : Nat) (B : Option Addr) (m e : Nat) (hp : PathAt w anyB p [.int .i64 k, .string t, .slice A n c, .slice B m e]) (hT : Tabs w) :
    Calls Tryd.prog 4 #[.agg #[.int .i64 k, .string t, .slice A n c, .slice B m e]] w fun e w' => e = .returned (.bool true) ∧ Below w.heap.size w w' := by
  obtain ⟨w0, hw0, HB0, HN0⟩ := boxP w k t A n c B m e
  have HHW : Aside0 (w.alloc (.cells #[.int .i64 k, .string t, .slice A n c, .slice B m e] 25) = w0) := ⟨hw0.symm⟩
  have HP0 := Aside0.mk (PathAt.below hp HB0.out)
  have HT0 := Aside0.mk (hT.below HB0.out)
  clear hw0 hp hT
  have CB : Aside0 (∀ W, PathAt W anyB p [.int .i64 k, .string t, .slice A n c, .slice B m e] → Calls Tryd.prog 23 #[.agg #[.int .i64 k, .string t, .slice A n c, .slice B m e], .int .i64 0] W fun e w' => e = .returned (.bool false) ∧ Below W.heap.size W w') := ⟨fun W hW => by
    have := big_any p 0 (by decide) W anyB k t A n c B m e hW
    rw [hbig] at this
    exact this⟩
  have CI : Aside0 (∀ W, PathAt W anyB p [.int .i64 k, .string t, .slice A n c, .slice B m e] → Tabs W → Calls Tryd.prog 24 #[.agg #[.int .i64 k, .string t, .slice A n c, .slice B m e]] W fun e w' => e = .returned (.bool true) ∧ Below W.heap.size W w') := ⟨fun W hW h => by
    have := refIs_path p hbig W anyB k t A n c B m e hW h
    rwa [hi] at this⟩
  obtain ⟨c0, hc0, h30, hsz⟩ := may_shown hi
  have CS := Aside0.mk (Qr.show_any p 0 c0 hc0 (by omega))
  have hyz := (blankB_size (showB p)).2
  obtain ⟨s, hs⟩ : ∃ s, showB p = s := ⟨_, rfl⟩
  rw [hs] at CS hsz hyz h1 h2
  obtain ⟨y, hy⟩ : ∃ y, blankB s = y := ⟨_, rfl⟩
  rw [hy] at hyz h2
  have HY := Aside0.mk hy
  have g4 : (s.size : Int) ≤ 9000 := by omega
  have CK := Aside0.mk known_any
  have C1 := Aside0.mk (fun W (h : Tabs W) => read_any s W (by omega) h)
  have C2 := Aside0.mk (fun W (h : Tabs W) => read_any y W (by omega) h)
  rw [hs, hy] at hl
  rw [h1] at C1
  rw [h2] at C2
  have gl : decide ((600 : Int) < (y.size : Int)) = true := by rw [decide_eq_true_eq]; omega
  clear hs hy h1 h2 hc0 hi hbig h30
  go_enter Tryd.func4, Tryd.ntmps4
  go_upto_region 1 with (fail)
  rw [HHW.out]
  have q0 := blk_cell HN0.out 0; have q1 := blk_cell HN0.out 1; have q2 := blk_cell HN0.out 2; have q3 := blk_cell HN0.out 3; simp at q0 q1 q2 q3
  go_wp2_with (first
    | (go_at_call 23; (with_reducible refine (CB.out _ HP0.out).mono ?_); rintro e w1 ⟨rfl, hb⟩; have HB1 := Aside0.mk (below_then HB0.out HB0.out.size hb); have HP1 := Aside0.mk (PathAt.below HP0.out hb); have HT1 := Aside0.mk (HT0.out.below hb); have HN1 := Aside0.mk (blk_below HN0.out hb); clear q0 q1 q2 q3; have q0 := blk_cell HN1.out 0; have q1 := blk_cell HN1.out 1; have q2 := blk_cell HN1.out 2; have q3 := blk_cell HN1.out 3; simp at q0 q1 q2 q3; clear hb)
    | (go_at_call 24; (with_reducible refine (CI.out _ HP1.out HT1.out).mono ?_); rintro e w2 ⟨rfl, hb⟩; have HB2 := Aside0.mk (below_then HB1.out HB1.out.size hb); have HP2 := Aside0.mk (PathAt.below HP1.out hb); have HT2 := Aside0.mk (HT1.out.below hb); have HN2 := Aside0.mk (blk_below HN1.out hb); clear q0 q1 q2 q3; have q0 := blk_cell HN2.out 0; have q1 := blk_cell HN2.out 1; have q2 := blk_cell HN2.out 2; have q3 := blk_cell HN2.out 3; simp at q0 q1 q2 q3; clear hb)
    | (go_at_call 30; (refine (CS.out _ _ _ _ _ _ _ _ _ _ HP2.out).mono ?_); rintro e w3 ⟨rfl, hb⟩; have HB3 := Aside0.mk (below_then HB2.out HB2.out.size hb); have HP3 := Aside0.mk (PathAt.below HP2.out hb); have HT3 := Aside0.mk (HT2.out.below hb); have HN3 := Aside0.mk (blk_below HN2.out hb); clear q0 q1 q2 q3; have q0 := blk_cell HN3.out 0; have q1 := blk_cell HN3.out 1; have q2 := blk_cell HN3.out 2; have q3 := blk_cell HN3.out 3; simp at q0 q1 q2 q3; clear hb))
  go_loopw [4, 5, 6] (fun u v z wr => ∃ (a : ByteArray) (wi : Bool) (i : Nat), u = .string a ∧ v = .bool wi ∧ z = .int .i64 i ∧ i ≤ s.size ∧ a.size ≤ 3 * i + 1 ∧ Aside0 (a.data.toList = 32 :: blankF false (s.data.toList.take i) ∧ stF false (s.data.toList.take i) = wi) ∧ Aside0 (wr = w3)) (fun _ _ z _ => s.size - (intOf z).toNat)
  case atStart => exact ⟨_, _, 0, rfl, rfl, rfl, by omega, by show 1 ≤ 1; omega, ⟨rfl, rfl⟩, ⟨by first | trivial | rfl⟩⟩
  case round =>
    obtain ⟨a, wi, i, rfl, rfl, rfl, hi, hz, HA, hw⟩ := hrel
    obtain rfl := hw.out.symm
    by_cases hin : i < s.size
    · obtain ⟨c8, hc8, hcx, hex⟩ := byte_one hin
      have HST := Aside0.mk (blank_step HA.out.1 HA.out.2 hc8)
      have HE1 := Aside0.mk hex
      obtain ⟨x, hx⟩ : ∃ x, byteAt s i = x := ⟨_, rfl⟩
      rw [hx] at hcx
      have hxb := get_byte s i hin
      rw [hx] at hxb
      have g0 : (0 : Int) ≤ (i : Int) := by omega
      have g1 : (i : Int) < (s.size : Int) := by omega
      have hk4 : (i : Int) + 1 ≤ (s.size : Int) := by omega
      have hsl : (Instr.slice 9 (.string s) (some (.int .i64 (i : Int))) (some (.int .i64 ((i : Int) + 1))) none).run Tryd.prog w3 = .ok (.string (s.extract i (i + 1))) w3 := by
        have := run_slice_string (P := Tryd.prog) w3 9 s .i64 .i64 (i : Int) ((i : Int) + 1) Tryd.underlying9 (by omega) (by omega) (by omega)
        rwa [show ((i : Int)).toNat = i by omega, show ((i : Int) + 1).toNat = i + 1 by omega] at this
      obtain ⟨e, he⟩ : ∃ e, s.extract i (i + 1) = e := ⟨_, rfl⟩
      rw [he] at hsl HE1 hex
      have hes : e.size = 1 := by rw [← size_list, hex]; rfl
      clear he hex hc8 hx
      by_cases h60 : x = 60
      · obtain ⟨k1, k2⟩ := in_60 wi (hcx.trans h60)
        have HK1 := Aside0.mk k1
        have HK2 := Aside0.mk k2
        clear k1 k2 hcx
        have z1 : ¬ 9223372036854775807 < a.size + 1 := by omega
        subst h60
        go_wp2_with fail
        go_roundw
        case rel => exact ⟨_, _, i + 1, rfl, rfl, by go_num, by omega, by rw [ByteArray.size_append, hes]; omega, ⟨by rw [HST.out.1, HK2.out, app_list, HE1.out], by rw [HST.out.2, HK1.out]⟩, ⟨by first | trivial | rfl⟩⟩
        case measure => simp [intOf]; omega
      · cases wi with
        | true =>
          by_cases h62 : x = 62
          · obtain ⟨k1, k2⟩ := in_62 (hcx.trans h62)
            have HK1 := Aside0.mk k1
            have HK2 := Aside0.mk k2
            clear k1 k2 hcx
            have z1 : ¬ 9223372036854775807 < a.size + 1 := by omega
            have z2 : ¬ 9223372036854775807 < a.size + 1 + 2 := by omega
            subst h62
            go_wp2_with fail
            go_roundw
            case rel => exact ⟨_, _, i + 1, rfl, rfl, by go_num, by omega, by rw [ByteArray.size_append, ByteArray.size_append, hes]; show a.size + 1 + 2 ≤ _; omega, ⟨by rw [HST.out.1, HK2.out, app_list, app_list, HE1.out]; simp, by rw [HST.out.2, HK1.out]⟩, ⟨by first | trivial | rfl⟩⟩
            case measure => simp [intOf]; omega
          · obtain ⟨k1, k2⟩ := in_yes (by rw [hcx]; exact h60) (by rw [hcx]; exact h62)
            have HK1 := Aside0.mk k1
            have HK2 := Aside0.mk k2
            clear k1 k2 hcx
            have n60 : ((x : Int) != 60) = true := by rw [bne_iff_ne]; omega
            have n60e : ((x : Int) == 60) = false := by rw [beq_eq_false_iff_ne]; omega
            have n62 : ((x : Int) != 62) = true := by rw [bne_iff_ne]; omega
            have n62e : ((x : Int) == 62) = false := by rw [beq_eq_false_iff_ne]; omega
            have z1 : ¬ 9223372036854775807 < a.size + 1 := by omega
            clear h60 h62
            go_wp2_with fail
            go_roundw
            case rel => exact ⟨_, _, i + 1, rfl, rfl, by go_num, by omega, by rw [ByteArray.size_append, hes]; omega, ⟨by rw [HST.out.1, HK2.out, app_list, HE1.out], by rw [HST.out.2, HK1.out]⟩, ⟨by first | trivial | rfl⟩⟩
            case measure => simp [intOf]; omega
        | false =>
          by_cases h33 : x = 33
          · obtain ⟨k1, k2⟩ := in_33 (hcx.trans h33)
            have HK1 := Aside0.mk k1
            have HK2 := Aside0.mk k2
            clear k1 k2 hcx
            have z1 : ¬ 9223372036854775807 < a.size + 1 := by omega
            subst h33
            go_wp2_with fail
            go_roundw
            case rel => exact ⟨_, _, i + 1, rfl, rfl, by go_num, by omega, by rw [ByteArray.size_append, hes]; omega, ⟨by rw [HST.out.1, HK2.out, app_list, HE1.out], by rw [HST.out.2, HK1.out]⟩, ⟨by first | trivial | rfl⟩⟩
            case measure => simp [intOf]; omega
          · obtain ⟨k1, k2⟩ := in_out (by rw [hcx]; exact h60) (by rw [hcx]; exact h33)
            have HK1 := Aside0.mk k1
            have HK2 := Aside0.mk k2
            clear k1 k2 hcx
            have n60 : ((x : Int) != 60) = true := by rw [bne_iff_ne]; omega
            have n60e : ((x : Int) == 60) = false := by rw [beq_eq_false_iff_ne]; omega
            have n33 : ((x : Int) != 33) = true := by rw [bne_iff_ne]; omega
            have n33e : ((x : Int) == 33) = false := by rw [beq_eq_false_iff_ne]; omega
            have z1 : ¬ 9223372036854775807 < a.size + 1 := by omega
            have z2 : ¬ 9223372036854775807 < a.size + 1 + 2 := by omega
            clear h60 h33
            go_wp2_with fail
            go_roundw
            case rel => exact ⟨_, _, i + 1, rfl, rfl, by go_num, by omega, by rw [ByteArray.size_append, ByteArray.size_append, hes]; show a.size + 1 + 2 ≤ _; omega, ⟨by rw [HST.out.1, HK2.out, app_list, app_list, HE1.out]; simp, by rw [HST.out.2, HK1.out]⟩, ⟨by first | trivial | rfl⟩⟩
            case measure => simp [intOf]; omega
    · obtain rfl : i = s.size := by omega
      obtain rfl : a = y := by
        rw [← HY.out]
        apply ba_ext
        have := HA.out.1
        rw [List.take_of_length_le (by rw [size_list]; exact Nat.le_refl _)] at this
        exact this
      clear hin hi hz HA q0 q1 q2 q3
      go_upto_region 14 with (go_at_call 26; (with_reducible refine (C1.out _ HT3.out).mono ?_); rintro e w4 ⟨k1, t1, A1, n1, c1, B1, m1, d1, rfl, hb, hp⟩; have HB4 := Aside0.mk (below_then HB3.out HB3.out.size hb); have HP4 := Aside0.mk hp; have HT4 := Aside0.mk (HT3.out.below hb); clear hb hp)
      obtain ⟨w5, hw5, HA5, HM5⟩ := boxP w4 k1 t1 A1 n1 c1 B1 m1 d1
      rw [← hw5]
      have HB5 := Aside0.mk (below_then HB4.out HB4.out.size HA5.out)
      have HP5 := Aside0.mk (PathAt.below HP4.out HA5.out)
      have HT5 := Aside0.mk (HT4.out.below HA5.out)
      clear hw5
      go_upto_region 15 with (go_at_call 26; (with_reducible refine (C2.out _ HT5.out).mono ?_); rintro e w6 ⟨k2, t2, A2, n2, c2, B2, m2, d2, rfl, hb, hp⟩; have HB6 := Aside0.mk (below_then HB5.out HB5.out.size hb); have HP6 := Aside0.mk (PathAt.below HP5.out hb); have HQ6 := Aside0.mk hp; have HT6 := Aside0.mk (HT5.out.below hb); have HM6 := Aside0.mk (blk_below HM5.out hb); clear hb hp)
      obtain ⟨w7, hw7, HA7, HO7⟩ := boxP w6 k2 t2 A2 n2 c2 B2 m2 d2
      rw [← hw7]
      have HB7 := Aside0.mk (below_then HB6.out HB6.out.size HA7.out)
      have HP7 := Aside0.mk (PathAt.below HP6.out HA7.out)
      have HQ7 := Aside0.mk (PathAt.below HQ6.out HA7.out)
      have HT7 := Aside0.mk (HT6.out.below HA7.out)
      have HM7 := Aside0.mk (blk_below HM6.out HA7.out)
      clear hw7
      go_wp2_with (go_at_call 28; (with_reducible refine (CK.out _ HT7.out).mono ?_); rintro e w8 ⟨rfl, hb⟩; have HB8 := Aside0.mk (below_then HB7.out HB7.out.size hb); clear hb)
      go_ret
      exact ⟨rfl, HB8.out⟩
set_option maxRecDepth 100000 in
set_option maxHeartbeats 8000000 in
theorem blanks_0 (p : Pth) (hbig : bigP p 0 = false) (hi : isP p = true) (hl : ¬ 600 < (blankB (showB p)).size) (h1 : readS (showB p) = (p, (showB p).size, 0)) (h2 : readS (blankB (showB p)) = (p, (blankB (showB p)).size, 0)) (w : World) (k : Int) (t : ByteArray) (A : Option Addr) (n c : Nat) (B : Option Addr) (m e : Nat) (hp : PathAt w anyB p [.int .i64 k, .string t, .slice A n c, .slice B m e]) (hT : Tabs w) :
    Calls Tryd.prog 4 #[.agg #[.int .i64 k, .string t, .slice A n c, .slice B m e]] w fun e w' => e = .returned (.bool true) ∧ Below w.heap.size w w' := by
  obtain ⟨w0, hw0, HB0, HN0⟩ := boxP w k t A n c B m e
  have HHW : Aside0 (w.alloc (.cells #[.int .i64 k, .string t, .slice A n c, .slice B m e] 25) = w0) := ⟨hw0.symm⟩
  have HP0 := Aside0.mk (PathAt.below hp HB0.out)
  have HT0 := Aside0.mk (hT.below HB0.out)
  clear hw0 hp hT
  have CB : Aside0 (∀ W, PathAt W anyB p [.int .i64 k, .string t, .slice A n c, .slice B m e] → Calls Tryd.prog 23 #[.agg #[.int .i64 k, .string t, .slice A n c, .slice B m e], .int .i64 0] W fun e w' => e = .returned (.bool false) ∧ Below W.heap.size W w') := ⟨fun W hW => by
    have := big_any p 0 (by decide) W anyB k t A n c B m e hW
    rw [hbig] at this
    exact this⟩
  have CI : Aside0 (∀ W, PathAt W anyB p [.int .i64 k, .string t, .slice A n c, .slice B m e] → Tabs W → Calls Tryd.prog 24 #[.agg #[.int .i64 k, .string t, .slice A n c, .slice B m e]] W fun e w' => e = .returned (.bool true) ∧ Below W.heap.size W w') := ⟨fun W hW h => by
    have := refIs_path p hbig W anyB k t A n c B m e hW h
    rwa [hi] at this⟩
  obtain ⟨c0, hc0, h30, hsz⟩ := may_shown hi
  have CS := Aside0.mk (Qr.show_any p 0 c0 hc0 (by omega))
  have hyz := (blankB_size (showB p)).2
  obtain ⟨s, hs⟩ : ∃ s, showB p = s := ⟨_, rfl⟩
  rw [hs] at CS hsz hyz h1 h2
  obtain ⟨y, hy⟩ : ∃ y, blankB s = y := ⟨_, rfl⟩
  rw [hy] at hyz h2
  have HY := Aside0.mk hy
  have g4 : (s.size : Int) ≤ 9000 := by omega
  have CK := Aside0.mk known_any
  have C1 := Aside0.mk (fun W (h : Tabs W) => read_any s W (by omega) h)
  have C2 := Aside0.mk (fun W (h : Tabs W) => read_any y W (by omega) h)
  rw [hs, hy] at hl
  rw [h1] at C1
  rw [h2] at C2
  have CF := Aside0.mk (refSame_any p p)
  rw [same_yes rfl] at CF
  have gl : decide ((600 : Int) < (y.size : Int)) = false := by rw [decide_eq_false_iff_not]; omega
  clear hs hy h1 h2 hc0 hi hbig h30
  go_enter Tryd.func4, Tryd.ntmps4
  go_upto_region 1 with (fail)
  rw [HHW.out]
  have q0 := blk_cell HN0.out 0; have q1 := blk_cell HN0.out 1; have q2 := blk_cell HN0.out 2; have q3 := blk_cell HN0.out 3; simp at q0 q1 q2 q3
  go_wp2_with (first
    | (go_at_call 23; (with_reducible refine (CB.out _ HP0.out).mono ?_); rintro e w1 ⟨rfl, hb⟩; have HB1 := Aside0.mk (below_then HB0.out HB0.out.size hb); have HP1 := Aside0.mk (PathAt.below HP0.out hb); have HT1 := Aside0.mk (HT0.out.below hb); have HN1 := Aside0.mk (blk_below HN0.out hb); clear q0 q1 q2 q3; have q0 := blk_cell HN1.out 0; have q1 := blk_cell HN1.out 1; have q2 := blk_cell HN1.out 2; have q3 := blk_cell HN1.out 3; simp at q0 q1 q2 q3; clear hb)
    | (go_at_call 24; (with_reducible refine (CI.out _ HP1.out HT1.out).mono ?_); rintro e w2 ⟨rfl, hb⟩; have HB2 := Aside0.mk (below_then HB1.out HB1.out.size hb); have HP2 := Aside0.mk (PathAt.below HP1.out hb); have HT2 := Aside0.mk (HT1.out.below hb); have HN2 := Aside0.mk (blk_below HN1.out hb); clear q0 q1 q2 q3; have q0 := blk_cell HN2.out 0; have q1 := blk_cell HN2.out 1; have q2 := blk_cell HN2.out 2; have q3 := blk_cell HN2.out 3; simp at q0 q1 q2 q3; clear hb)
    | (go_at_call 30; (refine (CS.out _ _ _ _ _ _ _ _ _ _ HP2.out).mono ?_); rintro e w3 ⟨rfl, hb⟩; have HB3 := Aside0.mk (below_then HB2.out HB2.out.size hb); have HP3 := Aside0.mk (PathAt.below HP2.out hb); have HT3 := Aside0.mk (HT2.out.below hb); have HN3 := Aside0.mk (blk_below HN2.out hb); clear q0 q1 q2 q3; have q0 := blk_cell HN3.out 0; have q1 := blk_cell HN3.out 1; have q2 := blk_cell HN3.out 2; have q3 := blk_cell HN3.out 3; simp at q0 q1 q2 q3; clear hb))
  go_loopw [4, 5, 6] (fun u v z wr => ∃ (a : ByteArray) (wi : Bool) (i : Nat), u = .string a ∧ v = .bool wi ∧ z = .int .i64 i ∧ i ≤ s.size ∧ a.size ≤ 3 * i + 1 ∧ Aside0 (a.data.toList = 32 :: blankF false (s.data.toList.take i) ∧ stF false (s.data.toList.take i) = wi) ∧ Aside0 (wr = w3)) (fun _ _ z _ => s.size - (intOf z).toNat)
  case atStart => exact ⟨_, _, 0, rfl, rfl, rfl, by omega, by show 1 ≤ 1; omega, ⟨rfl, rfl⟩, ⟨by first | trivial | rfl⟩⟩
  case round =>
    obtain ⟨a, wi, i, rfl, rfl, rfl, hi, hz, HA, hw⟩ := hrel
    obtain rfl := hw.out.symm
    by_cases hin : i < s.size
    · obtain ⟨c8, hc8, hcx, hex⟩ := byte_one hin
      have HST := Aside0.mk (blank_step HA.out.1 HA.out.2 hc8)
      have HE1 := Aside0.mk hex
      obtain ⟨x, hx⟩ : ∃ x, byteAt s i = x := ⟨_, rfl⟩
      rw [hx] at hcx
      have hxb := get_byte s i hin
      rw [hx] at hxb
      have g0 : (0 : Int) ≤ (i : Int) := by omega
      have g1 : (i : Int) < (s.size : Int) := by omega
      have hk4 : (i : Int) + 1 ≤ (s.size : Int) := by omega
      have hsl : (Instr.slice 9 (.string s) (some (.int .i64 (i : Int))) (some (.int .i64 ((i : Int) + 1))) none).run Tryd.prog w3 = .ok (.string (s.extract i (i + 1))) w3 := by
        have := run_slice_string (P := Tryd.prog) w3 9 s .i64 .i64 (i : Int) ((i : Int) + 1) Tryd.underlying9 (by omega) (by omega) (by omega)
        rwa [show ((i : Int)).toNat = i by omega, show ((i : Int) + 1).toNat = i + 1 by omega] at this
      obtain ⟨e, he⟩ : ∃ e, s.extract i (i + 1) = e := ⟨_, rfl⟩
      rw [he] at hsl HE1 hex
      have hes : e.size = 1 := by rw [← size_list, hex]; rfl
      clear he hex hc8 hx
      by_cases h60 : x = 60
      · obtain ⟨k1, k2⟩ := in_60 wi (hcx.trans h60)
        have HK1 := Aside0.mk k1
        have HK2 := Aside0.mk k2
        clear k1 k2 hcx
        have z1 : ¬ 9223372036854775807 < a.size + 1 := by omega
        subst h60
        go_wp2_with fail
        go_roundw
        case rel => exact ⟨_, _, i + 1, rfl, rfl, by go_num, by omega, by rw [ByteArray.size_append, hes]; omega, ⟨by rw [HST.out.1, HK2.out, app_list, HE1.out], by rw [HST.out.2, HK1.out]⟩, ⟨by first | trivial | rfl⟩⟩
        case measure => simp [intOf]; omega
      · cases wi with
        | true =>
          by_cases h62 : x = 62
          · obtain ⟨k1, k2⟩ := in_62 (hcx.trans h62)
            have HK1 := Aside0.mk k1
            have HK2 := Aside0.mk k2
            clear k1 k2 hcx
            have z1 : ¬ 9223372036854775807 < a.size + 1 := by omega
            have z2 : ¬ 9223372036854775807 < a.size + 1 + 2 := by omega
            subst h62
            go_wp2_with fail
            go_roundw
            case rel => exact ⟨_, _, i + 1, rfl, rfl, by go_num, by omega, by rw [ByteArray.size_append, ByteArray.size_append, hes]; show a.size + 1 + 2 ≤ _; omega, ⟨by rw [HST.out.1, HK2.out, app_list, app_list, HE1.out]; simp, by rw [HST.out.2, HK1.out]⟩, ⟨by first | trivial | rfl⟩⟩
            case measure => simp [intOf]; omega
          · obtain ⟨k1, k2⟩ := in_yes (by rw [hcx]; exact h60) (by rw [hcx]; exact h62)
            have HK1 := Aside0.mk k1
            have HK2 := Aside0.mk k2
            clear k1 k2 hcx
            have n60 : ((x : Int) != 60) = true := by rw [bne_iff_ne]; omega
            have n60e : ((x : Int) == 60) = false := by rw [beq_eq_false_iff_ne]; omega
            have n62 : ((x : Int) != 62) = true := by rw [bne_iff_ne]; omega
            have n62e : ((x : Int) == 62) = false := by rw [beq_eq_false_iff_ne]; omega
            have z1 : ¬ 9223372036854775807 < a.size + 1 := by omega
            clear h60 h62
            go_wp2_with fail
            go_roundw
            case rel => exact ⟨_, _, i + 1, rfl, rfl, by go_num, by omega, by rw [ByteArray.size_append, hes]; omega, ⟨by rw [HST.out.1, HK2.out, app_list, HE1.out], by rw [HST.out.2, HK1.out]⟩, ⟨by first | trivial | rfl⟩⟩
            case measure => simp [intOf]; omega
        | false =>
          by_cases h33 : x = 33
          · obtain ⟨k1, k2⟩ := in_33 (hcx.trans h33)
            have HK1 := Aside0.mk k1
            have HK2 := Aside0.mk k2
            clear k1 k2 hcx
            have z1 : ¬ 9223372036854775807 < a.size + 1 := by omega
            subst h33
            go_wp2_with fail
            go_roundw
            case rel => exact ⟨_, _, i + 1, rfl, rfl, by go_num, by omega, by rw [ByteArray.size_append, hes]; omega, ⟨by rw [HST.out.1, HK2.out, app_list, HE1.out], by rw [HST.out.2, HK1.out]⟩, ⟨by first | trivial | rfl⟩⟩
            case measure => simp [intOf]; omega
          · obtain ⟨k1, k2⟩ := in_out (by rw [hcx]; exact h60) (by rw [hcx]; exact h33)
            have HK1 := Aside0.mk k1
            have HK2 := Aside0.mk k2
            clear k1 k2 hcx
            have n60 : ((x : Int) != 60) = true := by rw [bne_iff_ne]; omega
            have n60e : ((x : Int) == 60) = false := by rw [beq_eq_false_iff_ne]; omega
            have n33 : ((x : Int) != 33) = true := by rw [bne_iff_ne]; omega
            have n33e : ((x : Int) == 33) = false := by rw [beq_eq_false_iff_ne]; omega
            have z1 : ¬ 9223372036854775807 < a.size + 1 := by omega
            have z2 : ¬ 9223372036854775807 < a.size + 1 + 2 := by omega
            clear h60 h33
            go_wp2_with fail
            go_roundw
            case rel => exact ⟨_, _, i + 1, rfl, rfl, by go_num, by omega, by rw [ByteArray.size_append, ByteArray.size_append, hes]; show a.size + 1 + 2 ≤ _; omega, ⟨by rw [HST.out.1, HK2.out, app_list, app_list, HE1.out]; simp, by rw [HST.out.2, HK1.out]⟩, ⟨by first | trivial | rfl⟩⟩
            case measure => simp [intOf]; omega
    · obtain rfl : i = s.size := by omega
      obtain rfl : a = y := by
        rw [← HY.out]
        apply ba_ext
        have := HA.out.1
        rw [List.take_of_length_le (by rw [size_list]; exact Nat.le_refl _)] at this
        exact this
      clear hin hi hz HA q0 q1 q2 q3
      go_upto_region 14 with (go_at_call 26; (with_reducible refine (C1.out _ HT3.out).mono ?_); rintro e w4 ⟨k1, t1, A1, n1, c1, B1, m1, d1, rfl, hb, hp⟩; have HB4 := Aside0.mk (below_then HB3.out HB3.out.size hb); have HP4 := Aside0.mk hp; have HT4 := Aside0.mk (HT3.out.below hb); clear hb hp)
      obtain ⟨w5, hw5, HA5, HM5⟩ := boxP w4 k1 t1 A1 n1 c1 B1 m1 d1
      rw [← hw5]
      have HB5 := Aside0.mk (below_then HB4.out HB4.out.size HA5.out)
      have HP5 := Aside0.mk (PathAt.below HP4.out HA5.out)
      have HT5 := Aside0.mk (HT4.out.below HA5.out)
      clear hw5
      go_upto_region 15 with (go_at_call 26; (with_reducible refine (C2.out _ HT5.out).mono ?_); rintro e w6 ⟨k2, t2, A2, n2, c2, B2, m2, d2, rfl, hb, hp⟩; have HB6 := Aside0.mk (below_then HB5.out HB5.out.size hb); have HP6 := Aside0.mk (PathAt.below HP5.out hb); have HQ6 := Aside0.mk hp; have HT6 := Aside0.mk (HT5.out.below hb); have HM6 := Aside0.mk (blk_below HM5.out hb); clear hb hp)
      obtain ⟨w7, hw7, HA7, HO7⟩ := boxP w6 k2 t2 A2 n2 c2 B2 m2 d2
      rw [← hw7]
      have HB7 := Aside0.mk (below_then HB6.out HB6.out.size HA7.out)
      have HP7 := Aside0.mk (PathAt.below HP6.out HA7.out)
      have HQ7 := Aside0.mk (PathAt.below HQ6.out HA7.out)
      have HT7 := Aside0.mk (HT6.out.below HA7.out)
      have HM7 := Aside0.mk (blk_below HM6.out HA7.out)
      clear hw7
      have qx0 := blk_cell HM7.out 0; have qx1 := blk_cell HM7.out 1; have qx2 := blk_cell HM7.out 2; have qx3 := blk_cell HM7.out 3; simp at qx0 qx1 qx2 qx3
      have qy0 := blk_cell HO7.out 0; have qy1 := blk_cell HO7.out 1; have qy2 := blk_cell HO7.out 2; have qy3 := blk_cell HO7.out 3; simp at qy0 qy1 qy2 qy3
      go_wp2_with (first
        | (go_at_call 29; refine (CF.out _ _ _ _ _ _ _ _ _ _ _ _ _ _ _ _ _ _ _ HP7.out HQ7.out).mono ?_; rintro e w8 ⟨rfl, hb⟩; have HB8 := Aside0.mk (below_then HB7.out HB7.out.size hb); have HT8 := Aside0.mk (HT7.out.below hb); clear hb)
        | (go_at_call 28; (with_reducible refine (CK.out _ HT8.out).mono ?_); rintro e w9 ⟨rfl, hb⟩; have HB9 := Aside0.mk (below_then HB8.out HB8.out.size hb); clear hb))
      go_ret
      exact ⟨rfl, HB9.out⟩
set_option maxRecDepth 100000 in
set_option maxHeartbeats 8000000 in
theorem blanks_3 (p : Pth) (hbig : bigP p 0 = false) (hi : isP p = true) (hl : ¬ 600 < (blankB (showB p)).size) (nn nm : Nat) (h1 : readS (showB p) = (noP, nn, 3)) (h2 : readS (blankB (showB p)) = (noP, nm, 3)) (w : World) (k : Int) (t : ByteArray) (A : Option Addr) (n c : Nat) (B : Option Addr) (m e : Nat) (hp : PathAt w anyB p [.int .i64 k, .string t, .slice A n c, .slice B m e]) (hT : Tabs w) :
    Calls Tryd.prog 4 #[.agg #[.int .i64 k, .string t, .slice A n c, .slice B m e]] w fun e w' => e = .returned (.bool true) ∧ Below w.heap.size w w' := by
  obtain ⟨w0, hw0, HB0, HN0⟩ := boxP w k t A n c B m e
  have HHW : Aside0 (w.alloc (.cells #[.int .i64 k, .string t, .slice A n c, .slice B m e] 25) = w0) := ⟨hw0.symm⟩
  have HP0 := Aside0.mk (PathAt.below hp HB0.out)
  have HT0 := Aside0.mk (hT.below HB0.out)
  clear hw0 hp hT
  have CB : Aside0 (∀ W, PathAt W anyB p [.int .i64 k, .string t, .slice A n c, .slice B m e] → Calls Tryd.prog 23 #[.agg #[.int .i64 k, .string t, .slice A n c, .slice B m e], .int .i64 0] W fun e w' => e = .returned (.bool false) ∧ Below W.heap.size W w') := ⟨fun W hW => by
    have := big_any p 0 (by decide) W anyB k t A n c B m e hW
    rw [hbig] at this
    exact this⟩
  have CI : Aside0 (∀ W, PathAt W anyB p [.int .i64 k, .string t, .slice A n c, .slice B m e] → Tabs W → Calls Tryd.prog 24 #[.agg #[.int .i64 k, .string t, .slice A n c, .slice B m e]] W fun e w' => e = .returned (.bool true) ∧ Below W.heap.size W w') := ⟨fun W hW h => by
    have := refIs_path p hbig W anyB k t A n c B m e hW h
    rwa [hi] at this⟩
  obtain ⟨c0, hc0, h30, hsz⟩ := may_shown hi
  have CS := Aside0.mk (Qr.show_any p 0 c0 hc0 (by omega))
  have hyz := (blankB_size (showB p)).2
  obtain ⟨s, hs⟩ : ∃ s, showB p = s := ⟨_, rfl⟩
  rw [hs] at CS hsz hyz h1 h2
  obtain ⟨y, hy⟩ : ∃ y, blankB s = y := ⟨_, rfl⟩
  rw [hy] at hyz h2
  have HY := Aside0.mk hy
  have g4 : (s.size : Int) ≤ 9000 := by omega
  have CK := Aside0.mk known_any
  have C1 := Aside0.mk (fun W (h : Tabs W) => read_any s W (by omega) h)
  have C2 := Aside0.mk (fun W (h : Tabs W) => read_any y W (by omega) h)
  rw [hs, hy] at hl
  rw [h1] at C1
  rw [h2] at C2
  have CF := Aside0.mk (refSame_any noP noP)
  rw [same_yes rfl] at CF
  have gl : decide ((600 : Int) < (y.size : Int)) = false := by rw [decide_eq_false_iff_not]; omega
  clear hs hy h1 h2 hc0 hi hbig h30
  go_enter Tryd.func4, Tryd.ntmps4
  go_upto_region 1 with (fail)
  rw [HHW.out]
  have q0 := blk_cell HN0.out 0; have q1 := blk_cell HN0.out 1; have q2 := blk_cell HN0.out 2; have q3 := blk_cell HN0.out 3; simp at q0 q1 q2 q3
  go_wp2_with (first
    | (go_at_call 23; (with_reducible refine (CB.out _ HP0.out).mono ?_); rintro e w1 ⟨rfl, hb⟩; have HB1 := Aside0.mk (below_then HB0.out HB0.out.size hb); have HP1 := Aside0.mk (PathAt.below HP0.out hb); have HT1 := Aside0.mk (HT0.out.below hb); have HN1 := Aside0.mk (blk_below HN0.out hb); clear q0 q1 q2 q3; have q0 := blk_cell HN1.out 0; have q1 := blk_cell HN1.out 1; have q2 := blk_cell HN1.out 2; have q3 := blk_cell HN1.out 3; simp at q0 q1 q2 q3; clear hb)
    | (go_at_call 24; (with_reducible refine (CI.out _ HP1.out HT1.out).mono ?_); rintro e w2 ⟨rfl, hb⟩; have HB2 := Aside0.mk (below_then HB1.out HB1.out.size hb); have HP2 := Aside0.mk (PathAt.below HP1.out hb); have HT2 := Aside0.mk (HT1.out.below hb); have HN2 := Aside0.mk (blk_below HN1.out hb); clear q0 q1 q2 q3; have q0 := blk_cell HN2.out 0; have q1 := blk_cell HN2.out 1; have q2 := blk_cell HN2.out 2; have q3 := blk_cell HN2.out 3; simp at q0 q1 q2 q3; clear hb)
    | (go_at_call 30; (refine (CS.out _ _ _ _ _ _ _ _ _ _ HP2.out).mono ?_); rintro e w3 ⟨rfl, hb⟩; have HB3 := Aside0.mk (below_then HB2.out HB2.out.size hb); have HP3 := Aside0.mk (PathAt.below HP2.out hb); have HT3 := Aside0.mk (HT2.out.below hb); have HN3 := Aside0.mk (blk_below HN2.out hb); clear q0 q1 q2 q3; have q0 := blk_cell HN3.out 0; have q1 := blk_cell HN3.out 1; have q2 := blk_cell HN3.out 2; have q3 := blk_cell HN3.out 3; simp at q0 q1 q2 q3; clear hb))
  go_loopw [4, 5, 6] (fun u v z wr => ∃ (a : ByteArray) (wi : Bool) (i : Nat), u = .string a ∧ v = .bool wi ∧ z = .int .i64 i ∧ i ≤ s.size ∧ a.size ≤ 3 * i + 1 ∧ Aside0 (a.data.toList = 32 :: blankF false (s.data.toList.take i) ∧ stF false (s.data.toList.take i) = wi) ∧ Aside0 (wr = w3)) (fun _ _ z _ => s.size - (intOf z).toNat)
  case atStart => exact ⟨_, _, 0, rfl, rfl, rfl, by omega, by show 1 ≤ 1; omega, ⟨rfl, rfl⟩, ⟨by first | trivial | rfl⟩⟩
  case round =>
    obtain ⟨a, wi, i, rfl, rfl, rfl, hi, hz, HA, hw⟩ := hrel
    obtain rfl := hw.out.symm
    by_cases hin : i < s.size
    · obtain ⟨c8, hc8, hcx, hex⟩ := byte_one hin
      have HST := Aside0.mk (blank_step HA.out.1 HA.out.2 hc8)
      have HE1 := Aside0.mk hex
      obtain ⟨x, hx⟩ : ∃ x, byteAt s i = x := ⟨_, rfl⟩
      rw [hx] at hcx
      have hxb := get_byte s i hin
      rw [hx] at hxb
      have g0 : (0 : Int) ≤ (i : Int) := by omega
      have g1 : (i : Int) < (s.size : Int) := by omega
      have hk4 : (i : Int) + 1 ≤ (s.size : Int) := by omega
      have hsl : (Instr.slice 9 (.string s) (some (.int .i64 (i : Int))) (some (.int .i64 ((i : Int) + 1))) none).run Tryd.prog w3 = .ok (.string (s.extract i (i + 1))) w3 := by
        have := run_slice_string (P := Tryd.prog) w3 9 s .i64 .i64 (i : Int) ((i : Int) + 1) Tryd.underlying9 (by omega) (by omega) (by omega)
        rwa [show ((i : Int)).toNat = i by omega, show ((i : Int) + 1).toNat = i + 1 by omega] at this
      obtain ⟨e, he⟩ : ∃ e, s.extract i (i + 1) = e := ⟨_, rfl⟩
      rw [he] at hsl HE1 hex
      have hes : e.size = 1 := by rw [← size_list, hex]; rfl
      clear he hex hc8 hx
      by_cases h60 : x = 60
      · obtain ⟨k1, k2⟩ := in_60 wi (hcx.trans h60)
        have HK1 := Aside0.mk k1
        have HK2 := Aside0.mk k2
        clear k1 k2 hcx
        have z1 : ¬ 9223372036854775807 < a.size + 1 := by omega
        subst h60
        go_wp2_with fail
        go_roundw
        case rel => exact ⟨_, _, i + 1, rfl, rfl, by go_num, by omega, by rw [ByteArray.size_append, hes]; omega, ⟨by rw [HST.out.1, HK2.out, app_list, HE1.out], by rw [HST.out.2, HK1.out]⟩, ⟨by first | trivial | rfl⟩⟩
        case measure => simp [intOf]; omega
      · cases wi with
        | true =>
          by_cases h62 : x = 62
          · obtain ⟨k1, k2⟩ := in_62 (hcx.trans h62)
            have HK1 := Aside0.mk k1
            have HK2 := Aside0.mk k2
            clear k1 k2 hcx
            have z1 : ¬ 9223372036854775807 < a.size + 1 := by omega
            have z2 : ¬ 9223372036854775807 < a.size + 1 + 2 := by omega
            subst h62
            go_wp2_with fail
            go_roundw
            case rel => exact ⟨_, _, i + 1, rfl, rfl, by go_num, by omega, by rw [ByteArray.size_append, ByteArray.size_append, hes]; show a.size + 1 + 2 ≤ _; omega, ⟨by rw [HST.out.1, HK2.out, app_list, app_list, HE1.out]; simp, by rw [HST.out.2, HK1.out]⟩, ⟨by first | trivial | rfl⟩⟩
            case measure => simp [intOf]; omega
          · obtain ⟨k1, k2⟩ := in_yes (by rw [hcx]; exact h60) (by rw [hcx]; exact h62)
            have HK1 := Aside0.mk k1
            have HK2 := Aside0.mk k2
            clear k1 k2 hcx
            have n60 : ((x : Int) != 60) = true := by rw [bne_iff_ne]; omega
            have n60e : ((x : Int) == 60) = false := by rw [beq_eq_false_iff_ne]; omega
            have n62 : ((x : Int) != 62) = true := by rw [bne_iff_ne]; omega
            have n62e : ((x : Int) == 62) = false := by rw [beq_eq_false_iff_ne]; omega
            have z1 : ¬ 9223372036854775807 < a.size + 1 := by omega
            clear h60 h62
            go_wp2_with fail
            go_roundw
            case rel => exact ⟨_, _, i + 1, rfl, rfl, by go_num, by omega, by rw [ByteArray.size_append, hes]; omega, ⟨by rw [HST.out.1, HK2.out, app_list, HE1.out], by rw [HST.out.2, HK1.out]⟩, ⟨by first | trivial | rfl⟩⟩
            case measure => simp [intOf]; omega
        | false =>
          by_cases h33 : x = 33
          · obtain ⟨k1, k2⟩ := in_33 (hcx.trans h33)
            have HK1 := Aside0.mk k1
            have HK2 := Aside0.mk k2
            clear k1 k2 hcx
            have z1 : ¬ 9223372036854775807 < a.size + 1 := by omega
            subst h33
            go_wp2_with fail
            go_roundw
            case rel => exact ⟨_, _, i + 1, rfl, rfl, by go_num, by omega, by rw [ByteArray.size_append, hes]; omega, ⟨by rw [HST.out.1, HK2.out, app_list, HE1.out], by rw [HST.out.2, HK1.out]⟩, ⟨by first | trivial | rfl⟩⟩
            case measure => simp [intOf]; omega
          · obtain ⟨k1, k2⟩ := in_out (by rw [hcx]; exact h60) (by rw [hcx]; exact h33)
            have HK1 := Aside0.mk k1
            have HK2 := Aside0.mk k2
            clear k1 k2 hcx
            have n60 : ((x : Int) != 60) = true := by rw [bne_iff_ne]; omega
            have n60e : ((x : Int) == 60) = false := by rw [beq_eq_false_iff_ne]; omega
            have n33 : ((x : Int) != 33) = true := by rw [bne_iff_ne]; omega
            have n33e : ((x : Int) == 33) = false := by rw [beq_eq_false_iff_ne]; omega
            have z1 : ¬ 9223372036854775807 < a.size + 1 := by omega
            have z2 : ¬ 9223372036854775807 < a.size + 1 + 2 := by omega
            clear h60 h33
            go_wp2_with fail
            go_roundw
            case rel => exact ⟨_, _, i + 1, rfl, rfl, by go_num, by omega, by rw [ByteArray.size_append, ByteArray.size_append, hes]; show a.size + 1 + 2 ≤ _; omega, ⟨by rw [HST.out.1, HK2.out, app_list, app_list, HE1.out]; simp, by rw [HST.out.2, HK1.out]⟩, ⟨by first | trivial | rfl⟩⟩
            case measure => simp [intOf]; omega
    · obtain rfl : i = s.size := by omega
      obtain rfl : a = y := by
        rw [← HY.out]
        apply ba_ext
        have := HA.out.1
        rw [List.take_of_length_le (by rw [size_list]; exact Nat.le_refl _)] at this
        exact this
      clear hin hi hz HA q0 q1 q2 q3
      go_upto_region 14 with (go_at_call 26; (with_reducible refine (C1.out _ HT3.out).mono ?_); rintro e w4 ⟨k1, t1, A1, n1, c1, B1, m1, d1, rfl, hb, hp⟩; have HB4 := Aside0.mk (below_then HB3.out HB3.out.size hb); have HP4 := Aside0.mk hp; have HT4 := Aside0.mk (HT3.out.below hb); clear hb hp)
      obtain ⟨w5, hw5, HA5, HM5⟩ := boxP w4 k1 t1 A1 n1 c1 B1 m1 d1
      rw [← hw5]
      have HB5 := Aside0.mk (below_then HB4.out HB4.out.size HA5.out)
      have HP5 := Aside0.mk (PathAt.below HP4.out HA5.out)
      have HT5 := Aside0.mk (HT4.out.below HA5.out)
      clear hw5
      go_upto_region 15 with (go_at_call 26; (with_reducible refine (C2.out _ HT5.out).mono ?_); rintro e w6 ⟨k2, t2, A2, n2, c2, B2, m2, d2, rfl, hb, hp⟩; have HB6 := Aside0.mk (below_then HB5.out HB5.out.size hb); have HP6 := Aside0.mk (PathAt.below HP5.out hb); have HQ6 := Aside0.mk hp; have HT6 := Aside0.mk (HT5.out.below hb); have HM6 := Aside0.mk (blk_below HM5.out hb); clear hb hp)
      obtain ⟨w7, hw7, HA7, HO7⟩ := boxP w6 k2 t2 A2 n2 c2 B2 m2 d2
      rw [← hw7]
      have HB7 := Aside0.mk (below_then HB6.out HB6.out.size HA7.out)
      have HP7 := Aside0.mk (PathAt.below HP6.out HA7.out)
      have HQ7 := Aside0.mk (PathAt.below HQ6.out HA7.out)
      have HT7 := Aside0.mk (HT6.out.below HA7.out)
      have HM7 := Aside0.mk (blk_below HM6.out HA7.out)
      clear hw7
      have qx0 := blk_cell HM7.out 0; have qx1 := blk_cell HM7.out 1; have qx2 := blk_cell HM7.out 2; have qx3 := blk_cell HM7.out 3; simp at qx0 qx1 qx2 qx3
      have qy0 := blk_cell HO7.out 0; have qy1 := blk_cell HO7.out 1; have qy2 := blk_cell HO7.out 2; have qy3 := blk_cell HO7.out 3; simp at qy0 qy1 qy2 qy3
      go_wp2_with (first
        | (go_at_call 29; refine (CF.out _ _ _ _ _ _ _ _ _ _ _ _ _ _ _ _ _ _ _ HP7.out HQ7.out).mono ?_; rintro e w8 ⟨rfl, hb⟩; have HB8 := Aside0.mk (below_then HB7.out HB7.out.size hb); have HT8 := Aside0.mk (HT7.out.below hb); clear hb)
        | (go_at_call 28; (with_reducible refine (CK.out _ HT8.out).mono ?_); rintro e w9 ⟨rfl, hb⟩; have HB9 := Aside0.mk (below_then HB8.out HB8.out.size hb); clear hb))
      go_ret
      exact ⟨rfl, HB9.out⟩
theorem blanks_law (p : Pth) (cs : List Value) (w : World) (hp : PathAt w anyB p cs) (hT : Tabs w) : Calls Tryd.prog 4 #[.agg cs.toArray] w fun e w' => e = .returned (.bool true) ∧ Below w.heap.size w w' := by
  obtain ⟨k, t, ts, ks⟩ := p
  obtain ⟨A, c, B, d, rfl, -⟩ := path_cells hp
  by_cases hb : bigP (.mk k t ts ks) 0 = true
  · exact blanks_big _ hb w _ _ _ _ _ _ _ _ hp hT
  have hb := Bool.not_eq_true _ |>.mp hb
  cases hi : isP (.mk k t ts ks) with
  | false => exact blanks_not _ hb hi w _ _ _ _ _ _ _ _ hp hT
  | true =>
    by_cases hl : 600 < (blankB (showB (.mk k t ts ks))).size
    · exact blanks_long _ hb hi _ _ _ hl rfl (by unfold readS; rw [if_pos hl]) w _ _ _ _ _ _ _ _ hp hT
    · have hs : ¬ 600 < (showB (.mk k t ts ks)).size := by have := (blankB_size (showB (.mk k t ts ks))).1; omega
      have hg := readS_good hs (show_good hi)
      have hg2 := readS_good hl (blank_good hi)
      cases hf : fitB (.mk k t ts ks) 5 with
      | false =>
        rw [hf, if_neg (by decide)] at hg hg2
        obtain ⟨a, ha⟩ := hg
        obtain ⟨a2, ha2⟩ := hg2
        exact blanks_3 _ hb hi hl _ _ ha ha2 w _ _ _ _ _ _ _ _ hp hT
      | true =>
        rw [hf, if_pos rfl] at hg hg2
        exact blanks_0 _ hb hi hl hg hg2 w _ _ _ _ _ _ _ _ hp hT
end Go.Proofs.YtbaegfjoionojaaDoor.Qy
