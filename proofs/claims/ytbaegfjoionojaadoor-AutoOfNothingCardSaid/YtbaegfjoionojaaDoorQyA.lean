/- The walks of the program's reader: next, fails, is, must. -/
import Derived.Test.YtbaegfjoionojaaDoorQyK
set_option linter.unusedSimpArgs false
set_option linter.unusedVariables false
namespace Go.Proofs.YtbaegfjoionojaaDoor.Qy
open Go Go.RowKit Go.Proofs.YtbaegfjoionojaaDoor.Tm Go.Proofs.YtbaegfjoionojaaDoorW.PrintWords

set_option maxRecDepth 100000 in
set_option maxHeartbeats 4000000 in
theorem next_ok (b : Nat) (s : ByteArray) (i o : Nat) (w : World) (hR : Rq w b s i 0 o) (hs : s.size ≤ 50000) (hi : i ≤ s.size) :
    Calls Tryd.prog 56 #[.pointer (some ⟨b, 0, none⟩)] w fun e w' => e = .returned (.int .u8 (nx s i : Int)) ∧ Rq w' b s (skip s i) 0 o ∧ Kb b w w' := by
  have HR := Aside0.mk hR
  have hs3 : (s.size : Int) ≤ 50000 := by omega
  clear hR
  go_enter Tryd.func56, Tryd.ntmps56
  go_wp2_with fail
  go_loopw [31] (fun x wr => ∃ j : Nat, j ≤ s.size ∧ Aside0 (skip s j = skip s i) ∧ Aside0 (Rq wr b s j 0 o) ∧ Aside0 (Kb b w wr)) (fun x wr => s.size - atOf wr b)
  case atStart => exact ⟨i, hi, ⟨rfl⟩, HR, ⟨Kb.refl _ _⟩⟩
  case round =>
    clear HR
    obtain ⟨wa, rfl⟩ : ∃ x, x = wr := ⟨wr, rfl⟩
    obtain ⟨j, hj, HS, HR, HK⟩ := hrel
    obtain ⟨c0, c1, c2, c3, f1, f2, f3⟩ := HR.out.cells
    by_cases hlt : j < s.size
    · have g1 : (j : Int) < (s.size : Int) := by omega
      have g0 : (0 : Int) ≤ (j : Int) := by omega
      obtain ⟨x, hx⟩ : ∃ x, byteAt s j = x := ⟨_, rfl⟩
      have hxb := get_byte s j hlt
      rw [hx] at hxb
      by_cases h32 : x = 32
      · subst h32
        have hsk := skip_go hlt hx
        have HSK : Aside0 (skip s (j + 1) = skip s i) := ⟨by rw [← hsk]; exact HS.out⟩
        clear hsk hx
        go_wp2_with fail
        go_quiet (fail)
        go_wp2_with fail
        go_roundw
        case rel => exact ⟨j + 1, by omega, HSK, ⟨Rq.to (HR.out.drewN _) (j + 1) _ (by simp)⟩, ⟨(HK.out.trans (Kb.drewN _ _)).trans (Kb.set _ _ _)⟩⟩
        case measure => rw [HR.out.atOf, (Rq.to (HR.out.drewN _) (j + 1) _ (by simp)).atOf]; omega
      · have hst : skip s j = j := skip_stop (fun h => h32 (by rw [← hx]; exact h.2))
        have hns : ((x : Int) == 32) = false := by rw [beq_eq_false_iff_ne]; omega
        have HE : Aside0 (nx s i = x ∧ skip s i = j) := ⟨by
          have h1 : skip s i = j := HS.out.symm.trans hst
          refine ⟨?_, h1⟩
          unfold nx
          rw [h1, if_pos hlt, hx]⟩
        clear hst hx h32
        go_wp2_with fail
        go_quiet (fail)
        go_wp2_with fail
        go_quiet (fail)
        go_wp2_with fail
        go_quiet (fail)
        go_wp2_with fail
        go_ret
        exact ⟨by rw [HE.out.1]; rfl, by rw [HE.out.2]; exact HR.out, by first | exact HK.out.trans (Kb.drewN _ _) | exact (HK.out.trans (Kb.drewN _ _)).trans (Kb.drewN _ _) | exact ((HK.out.trans (Kb.drewN _ _)).trans (Kb.drewN _ _)).trans (Kb.drewN _ _)⟩
    · have hje : j = s.size := by omega
      subst hje
      have hst : skip s s.size = s.size := skip_stop (fun h => by omega)
      have HE : Aside0 (nx s i = 0 ∧ skip s i = s.size) := ⟨by
        have h1 : skip s i = s.size := HS.out.symm.trans hst
        refine ⟨?_, h1⟩
        unfold nx
        rw [h1, if_neg (by omega)]⟩
      clear hst
      go_wp2_with fail
      go_quiet (fail)
      go_wp2_with fail
      go_quiet (fail)
      go_wp2_with fail
      go_ret
      exact ⟨by rw [HE.out.1]; rfl, by rw [HE.out.2]; exact HR.out, by first | exact HK.out.trans (Kb.drewN _ _) | exact (HK.out.trans (Kb.drewN _ _)).trans (Kb.drewN _ _) | exact ((HK.out.trans (Kb.drewN _ _)).trans (Kb.drewN _ _)).trans (Kb.drewN _ _)⟩
set_option maxRecDepth 100000 in
set_option maxHeartbeats 4000000 in
theorem next_err (b : Nat) (s : ByteArray) (i o : Nat) (er : Int) (w : World) (hR : Rq w b s i er o) (he : er ≠ 0) :
    Calls Tryd.prog 56 #[.pointer (some ⟨b, 0, none⟩)] w fun e w' => e = .returned (.int .u8 0) ∧ Rq w' b s i er o ∧ Kb b w w' := by
  have HR := Aside0.mk hR
  obtain ⟨c0, c1, c2, c3, f1, f2, f3⟩ := hR.cells
  have hee : (er == 0) = false := by rw [beq_eq_false_iff_ne]; exact he
  have hen : (er != 0) = true := by rw [bne_iff_ne]; exact he
  clear hR he
  go_enter Tryd.func56, Tryd.ntmps56
  go_wp2_with fail
  go_loopw [31] (fun x wr => Aside0 (wr = w)) (fun x wr => 0)
  case atStart => exact ⟨rfl⟩
  case round =>
    obtain rfl := hrel.out
    have HK : Aside0 (Kb b wr wr) := ⟨Kb.refl _ _⟩
    go_wp2_with fail
    go_quiet (fail)
    go_wp2_with fail
    go_quiet (fail)
    go_wp2_with fail
    go_ret
    exact ⟨rfl, HR.out, by first | exact HK.out.trans (Kb.drewN _ _) | exact (HK.out.trans (Kb.drewN _ _)).trans (Kb.drewN _ _) | exact ((HK.out.trans (Kb.drewN _ _)).trans (Kb.drewN _ _)).trans (Kb.drewN _ _)⟩
set_option maxRecDepth 100000 in
set_option maxHeartbeats 4000000 in
theorem fails_ok (b : Nat) (s : ByteArray) (i o a : Nat) (e0 er : Int) (w : World) (hR : Rq w b s i 0 o) :
    Calls Tryd.prog 57 #[.pointer (some ⟨b, 0, none⟩), .int .i64 (a : Int), .int .i64 er] w fun e w' => e = .returned (.agg #[.int .i64 0, .string ⟨#[]⟩, .slice none 0 0, .slice none 0 0]) ∧ Rq w' b s i er a ∧ Kb b w w' := by
  have hbl := blk_lt hR
  obtain ⟨wa, hwa, HA⟩ : ∃ wa, wa = w.alloc (.cells #[.int .i64 0, .string ⟨#[]⟩, .slice none 0 0, .slice none 0 0] 25) ∧ Aside0 (Below w.heap.size w wa) := ⟨_, rfl, ⟨below_alloc (Below.refl _ _) _⟩⟩
  have HN : Aside0 (wa.heap[w.heap.size]? = some (.cells #[.int .i64 0, .string ⟨#[]⟩, .slice none 0 0, .slice none 0 0] 25 (0, 0))) := ⟨by rw [hwa]; exact heap_alloc_new _ _⟩
  have HR := Aside0.mk (hR.below HA.out)
  have HW : Aside0 (w.alloc (.cells #[.int .i64 0, .string ⟨#[]⟩, .slice none 0 0, .slice none 0 0] 25) = wa) := ⟨hwa.symm⟩
  have HK : Aside0 (Kb b w wa) := ⟨Kb.of HA.out hbl⟩
  clear hR hwa
  go_enter Tryd.func57, Tryd.ntmps57
  go_upto_region 1 with (fail)
  rw [HW.out]
  obtain ⟨c0, c1, c2, c3, f1, f2, f3⟩ := HR.out.cells
  go_upto_region 3 with (fail)
  have HR2 := Aside0.mk (HR.out.err er a)
  have HN2 := Aside0.mk (blk_far (p := ⟨b, 3, none⟩) (blk_far (p := ⟨b, 2, none⟩) HN.out (by show w.heap.size ≠ b; omega) (.int .i64 er)) (by show w.heap.size ≠ b; omega) (.int .i64 (a : Int)))
  have HK2 := Aside0.mk ((HK.out.trans (Kb.set wa 2 (.int .i64 er))).trans (Kb.set _ 3 (.int .i64 (a : Int))))
  generalize (wa.setCell ⟨b, 2, none⟩ (.int .i64 er)).setCell ⟨b, 3, none⟩ (.int .i64 (a : Int)) = wb at HR2 HN2 HK2 ⊢
  clear c0 c1 c2 c3 f1 f2 f3
  have n0 := blk_cell HN2.out 0
  have n1 := blk_cell HN2.out 1
  have n2 := blk_cell HN2.out 2
  have n3 := blk_cell HN2.out 3
  simp at n0 n1 n2 n3
  have k0 := blk_frozen HN2.out 0
  have k1 := blk_frozen HN2.out 1
  have k2 := blk_frozen HN2.out 2
  have k3 := blk_frozen HN2.out 3
  go_wp2_with fail
  have hf := four_set HN2.out (.int .i64 0) (.string ⟨#[]⟩) (.slice none 0 0) (.slice none 0 0)
  have HRf := Aside0.mk (((((HR2.out.far (p := ⟨w.heap.size, 0, none⟩) (by show b ≠ w.heap.size; omega) (.int .i64 0)).far (p := ⟨w.heap.size, 1, none⟩) (by show b ≠ w.heap.size; omega) (.string ⟨#[]⟩)).far (p := ⟨w.heap.size, 2, none⟩) (by show b ≠ w.heap.size; omega) (.slice none 0 0))).far (p := ⟨w.heap.size, 3, none⟩) (by show b ≠ w.heap.size; omega) (.slice none 0 0))
  have HKf := Aside0.mk (((((HK2.out.far hbl (p := ⟨w.heap.size, 0, none⟩) (Nat.le_refl _) (.int .i64 0)).far hbl (p := ⟨w.heap.size, 1, none⟩) (Nat.le_refl _) (.string ⟨#[]⟩)).far hbl (p := ⟨w.heap.size, 2, none⟩) (Nat.le_refl _) (.slice none 0 0))).far hbl (p := ⟨w.heap.size, 3, none⟩) (Nat.le_refl _) (.slice none 0 0))
  generalize (((wb.setCell ⟨w.heap.size, 0, none⟩ (.int .i64 0)).setCell ⟨w.heap.size, 1, none⟩ (.string ⟨#[]⟩)).setCell ⟨w.heap.size, 2, none⟩ (.slice none 0 0)).setCell ⟨w.heap.size, 3, none⟩ (.slice none 0 0) = wf at hf HRf HKf ⊢
  have z0 := blk_cell hf 0
  have z1 := blk_cell hf 1
  have z2 := blk_cell hf 2
  have z3 := blk_cell hf 3
  simp at z0 z1 z2 z3
  clear hf
  refine bodyPost_ret (by simp [results, Tryd.results57, go_sem, z0, z1, z2, z3]; try rfl) rfl ?_
  exact ⟨rfl, HRf.out, HKf.out⟩
set_option maxRecDepth 100000 in
set_option maxHeartbeats 4000000 in
theorem fails_err (b : Nat) (s : ByteArray) (i o a : Nat) (e0 er : Int) (w : World) (hR : Rq w b s i e0 o) (he : e0 ≠ 0) :
    Calls Tryd.prog 57 #[.pointer (some ⟨b, 0, none⟩), .int .i64 (a : Int), .int .i64 er] w fun e w' => e = .returned (.agg #[.int .i64 0, .string ⟨#[]⟩, .slice none 0 0, .slice none 0 0]) ∧ Rq w' b s i e0 o ∧ Kb b w w' := by
  have hbl := blk_lt hR
  obtain ⟨wa, hwa, HA⟩ : ∃ wa, wa = w.alloc (.cells #[.int .i64 0, .string ⟨#[]⟩, .slice none 0 0, .slice none 0 0] 25) ∧ Aside0 (Below w.heap.size w wa) := ⟨_, rfl, ⟨below_alloc (Below.refl _ _) _⟩⟩
  have HN : Aside0 (wa.heap[w.heap.size]? = some (.cells #[.int .i64 0, .string ⟨#[]⟩, .slice none 0 0, .slice none 0 0] 25 (0, 0))) := ⟨by rw [hwa]; exact heap_alloc_new _ _⟩
  have HR := Aside0.mk (hR.below HA.out)
  have HW : Aside0 (w.alloc (.cells #[.int .i64 0, .string ⟨#[]⟩, .slice none 0 0, .slice none 0 0] 25) = wa) := ⟨hwa.symm⟩
  have HK : Aside0 (Kb b w wa) := ⟨Kb.of HA.out hbl⟩
  have hee : (e0 == 0) = false := by rw [beq_eq_false_iff_ne]; exact he
  clear hR hwa he
  go_enter Tryd.func57, Tryd.ntmps57
  go_upto_region 1 with (fail)
  rw [HW.out]
  obtain ⟨c0, c1, c2, c3, f1, f2, f3⟩ := HR.out.cells
  go_upto_region 3 with (fail)
  have HR2 := HR
  have HN2 := HN
  have HK2 := HK
  obtain ⟨wb, hwb⟩ : ∃ wb, wb = wa := ⟨_, rfl⟩
  rw [← hwb] at HR2 HN2 HK2 ⊢
  clear hwb
  clear c0 c1 c2 c3 f1 f2 f3
  have n0 := blk_cell HN2.out 0
  have n1 := blk_cell HN2.out 1
  have n2 := blk_cell HN2.out 2
  have n3 := blk_cell HN2.out 3
  simp at n0 n1 n2 n3
  have k0 := blk_frozen HN2.out 0
  have k1 := blk_frozen HN2.out 1
  have k2 := blk_frozen HN2.out 2
  have k3 := blk_frozen HN2.out 3
  go_wp2_with fail
  have hf := four_set HN2.out (.int .i64 0) (.string ⟨#[]⟩) (.slice none 0 0) (.slice none 0 0)
  have HRf := Aside0.mk (((((HR2.out.far (p := ⟨w.heap.size, 0, none⟩) (by show b ≠ w.heap.size; omega) (.int .i64 0)).far (p := ⟨w.heap.size, 1, none⟩) (by show b ≠ w.heap.size; omega) (.string ⟨#[]⟩)).far (p := ⟨w.heap.size, 2, none⟩) (by show b ≠ w.heap.size; omega) (.slice none 0 0))).far (p := ⟨w.heap.size, 3, none⟩) (by show b ≠ w.heap.size; omega) (.slice none 0 0))
  have HKf := Aside0.mk (((((HK2.out.far hbl (p := ⟨w.heap.size, 0, none⟩) (Nat.le_refl _) (.int .i64 0)).far hbl (p := ⟨w.heap.size, 1, none⟩) (Nat.le_refl _) (.string ⟨#[]⟩)).far hbl (p := ⟨w.heap.size, 2, none⟩) (Nat.le_refl _) (.slice none 0 0))).far hbl (p := ⟨w.heap.size, 3, none⟩) (Nat.le_refl _) (.slice none 0 0))
  generalize (((wb.setCell ⟨w.heap.size, 0, none⟩ (.int .i64 0)).setCell ⟨w.heap.size, 1, none⟩ (.string ⟨#[]⟩)).setCell ⟨w.heap.size, 2, none⟩ (.slice none 0 0)).setCell ⟨w.heap.size, 3, none⟩ (.slice none 0 0) = wf at hf HRf HKf ⊢
  have z0 := blk_cell hf 0
  have z1 := blk_cell hf 1
  have z2 := blk_cell hf 2
  have z3 := blk_cell hf 3
  simp at z0 z1 z2 z3
  clear hf
  refine bodyPost_ret (by simp [results, Tryd.results57, go_sem, z0, z1, z2, z3]; try rfl) rfl ?_
  exact ⟨rfl, HRf.out, HKf.out⟩
set_option maxRecDepth 100000 in
set_option maxHeartbeats 4000000 in
theorem is_yes (b : Nat) (s : ByteArray) (i o c : Nat) (er : Int) (w : World) (hR : Rq w b s i 0 o) (hs : s.size ≤ 50000) (hi : i ≤ s.size) (hc : nx s i = c) (h0 : c ≠ 0) :
    Calls Tryd.prog 90 #[.pointer (some ⟨b, 0, none⟩), .int .u8 (c : Int)] w fun e w' => e = .returned (.bool true) ∧ Rq w' b s (skip s i + 1) 0 o ∧ Kb b w w' := by
  have hx := nx_in (s := s) (i := i) (by rw [hc]; exact h0)
  have CN := Aside0.mk (next_ok b s i o w hR hs hi)
  rw [hc] at CN
  obtain ⟨j, hj⟩ : ∃ j, skip s i = j := ⟨_, rfl⟩
  rw [hj] at hx CN ⊢
  have hs3 : (s.size : Int) ≤ 50000 := by omega
  have g1 : (j : Int) < (s.size : Int) := by omega
  clear hR hc hx hj
  go_enter Tryd.func90, Tryd.ntmps90
  go_wp2_with (go_at_call 56; (with_reducible refine CN.out.mono ?_); rintro e w1 ⟨rfl, hr, hk⟩; have HR1 := Aside0.mk hr; have HK1 := Aside0.mk hk; obtain ⟨c0, c1, c2, c3, f1, f2, f3⟩ := hr.cells; clear hr hk)
  go_ret
  exact ⟨rfl, Rq.to HR1.out (j + 1) _ (by simp), HK1.out.trans (Kb.set _ _ _)⟩
set_option maxRecDepth 100000 in
set_option maxHeartbeats 4000000 in
theorem is_no (b : Nat) (s : ByteArray) (i o c : Nat) (er : Int) (w : World) (hR : Rq w b s i 0 o) (hs : s.size ≤ 50000) (hi : i ≤ s.size) (hc : nx s i ≠ c) :
    Calls Tryd.prog 90 #[.pointer (some ⟨b, 0, none⟩), .int .u8 (c : Int)] w fun e w' => e = .returned (.bool false) ∧ Rq w' b s (skip s i) 0 o ∧ Kb b w w' := by
  have CN := Aside0.mk (next_ok b s i o w hR hs hi)
  obtain ⟨x, hx⟩ : ∃ x, nx s i = x := ⟨_, rfl⟩
  rw [hx] at hc CN
  have hne : ((x : Int) != (c : Int)) = true := by rw [bne_iff_ne]; omega
  clear hR hc hx
  go_enter Tryd.func90, Tryd.ntmps90
  go_wp2_with (go_at_call 56; (with_reducible refine CN.out.mono ?_); rintro e w1 ⟨rfl, hr, hk⟩; have HR1 := Aside0.mk hr; have HK1 := Aside0.mk hk; obtain ⟨c0, c1, c2, c3, f1, f2, f3⟩ := hr.cells; clear hr hk)
  go_ret
  exact ⟨rfl, HR1.out, HK1.out⟩
set_option maxRecDepth 100000 in
set_option maxHeartbeats 4000000 in
theorem is_err (b : Nat) (s : ByteArray) (i o c : Nat) (er : Int) (w : World) (hR : Rq w b s i er o) (he : er ≠ 0) (h0 : c ≠ 0) :
    Calls Tryd.prog 90 #[.pointer (some ⟨b, 0, none⟩), .int .u8 (c : Int)] w fun e w' => e = .returned (.bool false) ∧ Rq w' b s i er o ∧ Kb b w w' := by
  have CN := Aside0.mk (next_err b s i o er w hR he)
  have hne : ((0 : Int) != (c : Int)) = true := by rw [bne_iff_ne]; omega
  clear hR he
  go_enter Tryd.func90, Tryd.ntmps90
  go_wp2_with (go_at_call 56; (with_reducible refine CN.out.mono ?_); rintro e w1 ⟨rfl, hr, hk⟩; have HR1 := Aside0.mk hr; have HK1 := Aside0.mk hk; obtain ⟨c0, c1, c2, c3, f1, f2, f3⟩ := hr.cells; clear hr hk)
  go_ret
  exact ⟨rfl, HR1.out, HK1.out⟩
set_option maxRecDepth 100000 in
set_option maxHeartbeats 4000000 in
theorem must_yes (b : Nat) (s : ByteArray) (i o c : Nat) (er : Int) (w : World) (hR : Rq w b s i 0 o) (hs : s.size ≤ 50000) (hi : i ≤ s.size) (hc : nx s i = c) (h0 : c ≠ 0) :
    Calls Tryd.prog 166 #[.pointer (some ⟨b, 0, none⟩), .int .u8 (c : Int)] w fun e w' => e = .returned (.tuple #[]) ∧ Rq w' b s (skip s i + 1) 0 o ∧ Kb b w w' := by
  have CN := Aside0.mk (is_yes b s i o c 0 w hR hs hi hc h0)
  clear hR hc
  go_enter Tryd.func166, Tryd.ntmps166
  go_wp2_with ((go_at_call 90; (with_reducible refine CN.out.mono ?_); rintro e w1 ⟨rfl, hr, hk⟩; have HR1 := Aside0.mk hr; have HK1 := Aside0.mk hk; obtain ⟨c0, c1, c2, c3, f1, f2, f3⟩ := hr.cells; clear hr hk))
  go_end0
  exact ⟨rfl, HR1.out, HK1.out⟩
set_option maxRecDepth 100000 in
set_option maxHeartbeats 4000000 in
theorem must_no (b : Nat) (s : ByteArray) (i o c : Nat) (er : Int) (w : World) (hR : Rq w b s i 0 o) (hs : s.size ≤ 50000) (hi : i ≤ s.size) (hc : nx s i ≠ c) :
    Calls Tryd.prog 166 #[.pointer (some ⟨b, 0, none⟩), .int .u8 (c : Int)] w fun e w' => e = .returned (.tuple #[]) ∧ Rq w' b s (skip s i) 2 (skip s i) ∧ Kb b w w' := by
  have CN := Aside0.mk (is_no b s i o c 0 w hR hs hi hc)
  have CF := Aside0.mk (fun W h => fails_ok b s (skip s i) o (skip s i) 0 2 W h)
  obtain ⟨j, hj⟩ : ∃ j, skip s i = j := ⟨_, rfl⟩
  rw [hj] at CN CF ⊢
  clear hR hc hj
  go_enter Tryd.func166, Tryd.ntmps166
  go_wp2_with (first | (go_at_call 90; (with_reducible refine CN.out.mono ?_); rintro e w1 ⟨rfl, hr, hk⟩; have HR1 := Aside0.mk hr; have HK1 := Aside0.mk hk; obtain ⟨c0, c1, c2, c3, f1, f2, f3⟩ := hr.cells; clear hr hk) | (go_at_call 57; (with_reducible refine (CF.out _ HR1.out).mono ?_); rintro e w2 ⟨rfl, hr, hk⟩; have HR2 := Aside0.mk hr; have HK2 := Aside0.mk hk; clear hr hk))
  go_end0
  exact ⟨rfl, HR2.out, HK1.out.trans HK2.out⟩
set_option maxRecDepth 100000 in
set_option maxHeartbeats 4000000 in
theorem must_err (b : Nat) (s : ByteArray) (i o c : Nat) (er : Int) (w : World) (hR : Rq w b s i er o) (he : er ≠ 0) (h0 : c ≠ 0) :
    Calls Tryd.prog 166 #[.pointer (some ⟨b, 0, none⟩), .int .u8 (c : Int)] w fun e w' => e = .returned (.tuple #[]) ∧ Rq w' b s i er o ∧ Kb b w w' := by
  have CN := Aside0.mk (is_err b s i o c er w hR he h0)
  have CF := Aside0.mk (fun W h => fails_err b s i o i er 2 W h he)
  clear hR he
  go_enter Tryd.func166, Tryd.ntmps166
  go_wp2_with (first | (go_at_call 90; (with_reducible refine CN.out.mono ?_); rintro e w1 ⟨rfl, hr, hk⟩; have HR1 := Aside0.mk hr; have HK1 := Aside0.mk hk; obtain ⟨c0, c1, c2, c3, f1, f2, f3⟩ := hr.cells; clear hr hk) | (go_at_call 57; (with_reducible refine (CF.out _ HR1.out).mono ?_); rintro e w2 ⟨rfl, hr, hk⟩; have HR2 := Aside0.mk hr; have HK2 := Aside0.mk hk; clear hr hk))
  go_end0
  exact ⟨rfl, HR2.out, HK1.out.trans HK2.out⟩
end Go.Proofs.YtbaegfjoionojaaDoor.Qy
