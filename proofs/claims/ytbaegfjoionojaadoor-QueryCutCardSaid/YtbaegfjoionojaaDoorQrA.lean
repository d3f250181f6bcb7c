/- The walks of the reference's reader: next, fail, sign. -/
import Derived.Test.YtbaegfjoionojaaDoorQyG
set_option linter.unusedSimpArgs false
set_option linter.unusedVariables false
namespace Go.Proofs.YtbaegfjoionojaaDoor.Qr
open Go Go.RowKit Go.Proofs.YtbaegfjoionojaaDoor.Tm Go.Proofs.YtbaegfjoionojaaDoor.Qy Go.Proofs.YtbaegfjoionojaaDoorW.PrintWords

/-- The program's reader: its text, its place, its error, where. -/
def Rq (w : World) (b : Nat) (s : ByteArray) (i : Nat) (e : Int) (o : Nat) : Prop := w.heap[b]? = some (.cells #[.string s, .int .i64 (i : Int), .int .i64 e, .int .i64 (o : Int)] 90 (0, 0))
theorem Rq.below {w w1 : World} {b : Nat} {s : ByteArray} {i : Nat} {e : Int} {o : Nat} (h : Rq w b s i e o) (hb : Below w.heap.size w w1) : Rq w1 b s i e o := blk_below h hb
theorem Rq.cells {w : World} {b : Nat} {s : ByteArray} {i : Nat} {e : Int} {o : Nat} (h : Rq w b s i e o) : w.cell? ⟨b, 0, none⟩ = some (.string s) ∧ w.cell? ⟨b, 1, none⟩ = some (.int .i64 (i : Int)) ∧ w.cell? ⟨b, 2, none⟩ = some (.int .i64 e) ∧ w.cell? ⟨b, 3, none⟩ = some (.int .i64 (o : Int)) ∧ w.frozen? ⟨b, 1, none⟩ = false ∧ w.frozen? ⟨b, 2, none⟩ = false ∧ w.frozen? ⟨b, 3, none⟩ = false :=
  ⟨blk_cell h 0, blk_cell h 1, blk_cell h 2, blk_cell h 3, blk_frozen h 1, blk_frozen h 2, blk_frozen h 3⟩
theorem Rq.at {w : World} {b : Nat} {s : ByteArray} {i : Nat} {e : Int} {o : Nat} (h : Rq w b s i e o) (j : Nat) : Rq (w.setCell ⟨b, 1, none⟩ (.int .i64 (j : Int))) b s j e o := (blk_set h 1 _).trans rfl
theorem Rq.to {w : World} {b : Nat} {s : ByteArray} {i : Nat} {e : Int} {o : Nat} (h : Rq w b s i e o) (j : Nat) (n : Int) (hn : n = (j : Int)) : Rq (w.setCell ⟨b, 1, none⟩ (.int .i64 n)) b s j e o := by subst hn; exact h.at j
theorem Rq.drewN {w : World} {b : Nat} {s : ByteArray} {i : Nat} {e : Int} {o : Nat} (h : Rq w b s i e o) (n : Nat) : Rq (w.drewN n) b s i e o := h
theorem Rq.err {w : World} {b : Nat} {s : ByteArray} {i : Nat} {e : Int} {o : Nat} (h : Rq w b s i e o) (e2 : Int) (o2 : Nat) : Rq ((w.setCell ⟨b, 2, none⟩ (.int .i64 e2)).setCell ⟨b, 3, none⟩ (.int .i64 (o2 : Int))) b s i e2 o2 := (blk_set (blk_set h 2 _) 3 _).trans rfl
theorem Rq.far {w : World} {b : Nat} {s : ByteArray} {i : Nat} {e : Int} {o : Nat} (h : Rq w b s i e o) {p : Addr} (hp : b ≠ p.block) (v : Value) : Rq (w.setCell p v) b s i e o := blk_far h hp v
theorem Rq.atOf {w : World} {b : Nat} {s : ByteArray} {i : Nat} {e : Int} {o : Nat} (h : Rq w b s i e o) : atOf w b = i := by
  unfold Qy.atOf
  rw [h.cells.2.1]
  simp
set_option maxRecDepth 100000 in
set_option maxHeartbeats 4000000 in
theorem next_ok (b : Nat) (s : ByteArray) (i o : Nat) (w : World) (hR : Rq w b s i 0 o) (hs : s.size ≤ 50000) (hi : i ≤ s.size) :
    Calls Tryd.prog 59 #[.pointer (some ⟨b, 0, none⟩)] w fun e w' => e = .returned (.int .u8 (nx s i : Int)) ∧ Rq w' b s (skip s i) 0 o ∧ Kb b w w' := by
  have HR := Aside0.mk hR
  have hs3 : (s.size : Int) ≤ 50000 := by omega
  clear hR
  go_enter Tryd.func59, Tryd.ntmps59
  go_wp2_with fail
  go_loopw [24] (fun x wr => ∃ j : Nat, j ≤ s.size ∧ Aside0 (skip s j = skip s i) ∧ Aside0 (Rq wr b s j 0 o) ∧ Aside0 (Kb b w wr)) (fun x wr => s.size - atOf wr b)
  case atStart => exact ⟨i, hi, ⟨rfl⟩, HR, ⟨Kb.refl _ _⟩⟩
  case round =>
    clear HR
    obtain ⟨wa, rfl⟩ : ∃ x, x = wr := ⟨wr, rfl⟩
    obtain ⟨j, hj, HS, HR, HK⟩ := hrel
    obtain ⟨c0, c1, c2, c3, f1, f2, f3⟩ := HR.out.cells
    by_cases hlt : j < s.size
    · have g1 : (j : Int) < (s.size : Int) := by omega
      have g0 : (0 : Int) ≤ (j : Int) := by omega
      obtain ⟨x, hx⟩ : ∃ x, byteAt s j = x := ⟨_, rfl⟩
      have hxb := get_byte s j hlt
      rw [hx] at hxb
      by_cases h32 : x = 32
      · subst h32
        have hsk := skip_go hlt hx
        have HSK : Aside0 (skip s (j + 1) = skip s i) := ⟨by rw [← hsk]; exact HS.out⟩
        clear hsk hx
        go_wp2_with fail
        go_quiet (fail)
        go_wp2_with fail
        go_roundw
        case rel => exact ⟨j + 1, by omega, HSK, ⟨Rq.to (HR.out.drewN _) (j + 1) _ (by simp)⟩, ⟨(HK.out.trans (Kb.drewN _ _)).trans (Kb.set _ _ _)⟩⟩
        case measure => rw [HR.out.atOf, (Rq.to (HR.out.drewN _) (j + 1) _ (by simp)).atOf]; omega
      · have hst : skip s j = j := skip_stop (fun h => h32 (by rw [← hx]; exact h.2))
        have hns : ((x : Int) == 32) = false := by rw [beq_eq_false_iff_ne]; omega
        have HE : Aside0 (nx s i = x ∧ skip s i = j) := ⟨by
          have h1 : skip s i = j := HS.out.symm.trans hst
          refine ⟨?_, h1⟩
          unfold nx
          rw [h1, if_pos hlt, hx]⟩
        clear hst hx h32
        go_wp2_with fail
        go_quiet (fail)
        go_wp2_with fail
        go_quiet (fail)
        go_wp2_with fail
        go_quiet (fail)
        go_wp2_with fail
        go_ret
        exact ⟨by rw [HE.out.1]; rfl, by rw [HE.out.2]; exact HR.out, by first | exact HK.out.trans (Kb.drewN _ _) | exact (HK.out.trans (Kb.drewN _ _)).trans (Kb.drewN _ _) | exact ((HK.out.trans (Kb.drewN _ _)).trans (Kb.drewN _ _)).trans (Kb.drewN _ _)⟩
    · have hje : j = s.size := by omega
      subst hje
      have hst : skip s s.size = s.size := skip_stop (fun h => by omega)
      have HE : Aside0 (nx s i = 0 ∧ skip s i = s.size) := ⟨by
        have h1 : skip s i = s.size := HS.out.symm.trans hst
        refine ⟨?_, h1⟩
        unfold nx
        rw [h1, if_neg (by omega)]⟩
      clear hst
      go_wp2_with fail
      go_quiet (fail)
      go_wp2_with fail
      go_quiet (fail)
      go_wp2_with fail
      go_ret
      exact ⟨by rw [HE.out.1]; rfl, by rw [HE.out.2]; exact HR.out, by first | exact HK.out.trans (Kb.drewN _ _) | exact (HK.out.trans (Kb.drewN _ _)).trans (Kb.drewN _ _) | exact ((HK.out.trans (Kb.drewN _ _)).trans (Kb.drewN _ _)).trans (Kb.drewN _ _)⟩
set_option maxRecDepth 100000 in
set_option maxHeartbeats 4000000 in
theorem next_err (b : Nat) (s : ByteArray) (i o : Nat) (er : Int) (w : World) (he : er ≠ 0) (hR : Rq w b s i er o) (hs : s.size ≤ 50000) (hi : i ≤ s.size) :
    Calls Tryd.prog 59 #[.pointer (some ⟨b, 0, none⟩)] w fun e w' => e = .returned (.int .u8 0) ∧ Rq w' b s (skip s i) er o ∧ Kb b w w' := by
  have HR := Aside0.mk hR
  have hee : (er == 0) = false := by rw [beq_eq_false_iff_ne]; exact he
  have hen : (er != 0) = true := by rw [bne_iff_ne]; exact he
  have hs3 : (s.size : Int) ≤ 50000 := by omega
  clear hR
  go_enter Tryd.func59, Tryd.ntmps59
  go_wp2_with fail
  go_loopw [24] (fun x wr => ∃ j : Nat, j ≤ s.size ∧ Aside0 (skip s j = skip s i) ∧ Aside0 (Rq wr b s j er o) ∧ Aside0 (Kb b w wr)) (fun x wr => s.size - atOf wr b)
  case atStart => exact ⟨i, hi, ⟨rfl⟩, HR, ⟨Kb.refl _ _⟩⟩
  case round =>
    clear HR
    obtain ⟨wa, rfl⟩ : ∃ x, x = wr := ⟨wr, rfl⟩
    obtain ⟨j, hj, HS, HR, HK⟩ := hrel
    obtain ⟨c0, c1, c2, c3, f1, f2, f3⟩ := HR.out.cells
    by_cases hlt : j < s.size
    · have g1 : (j : Int) < (s.size : Int) := by omega
      have g0 : (0 : Int) ≤ (j : Int) := by omega
      obtain ⟨x, hx⟩ : ∃ x, byteAt s j = x := ⟨_, rfl⟩
      have hxb := get_byte s j hlt
      rw [hx] at hxb
      by_cases h32 : x = 32
      · subst h32
        have hsk := skip_go hlt hx
        have HSK : Aside0 (skip s (j + 1) = skip s i) := ⟨by rw [← hsk]; exact HS.out⟩
        clear hsk hx
        go_wp2_with fail
        go_quiet (fail)
        go_wp2_with fail
        go_roundw
        case rel => exact ⟨j + 1, by omega, HSK, ⟨Rq.to (HR.out.drewN _) (j + 1) _ (by simp)⟩, ⟨(HK.out.trans (Kb.drewN _ _)).trans (Kb.set _ _ _)⟩⟩
        case measure => rw [HR.out.atOf, (Rq.to (HR.out.drewN _) (j + 1) _ (by simp)).atOf]; omega
      · have hst : skip s j = j := skip_stop (fun h => h32 (by rw [← hx]; exact h.2))
        have hns : ((x : Int) == 32) = false := by rw [beq_eq_false_iff_ne]; omega
        have HE : Aside0 (nx s i = x ∧ skip s i = j) := ⟨by
          have h1 : skip s i = j := HS.out.symm.trans hst
          refine ⟨?_, h1⟩
          unfold nx
          rw [h1, if_pos hlt, hx]⟩
        clear hst hx h32
        go_wp2_with fail
        go_quiet (fail)
        go_wp2_with fail
        go_quiet (fail)
        go_wp2_with fail
        go_ret
        exact ⟨rfl, by rw [HE.out.2]; exact HR.out, by first | exact HK.out.trans (Kb.drewN _ _) | exact (HK.out.trans (Kb.drewN _ _)).trans (Kb.drewN _ _) | exact ((HK.out.trans (Kb.drewN _ _)).trans (Kb.drewN _ _)).trans (Kb.drewN _ _)⟩
    · have hje : j = s.size := by omega
      subst hje
      have hst : skip s s.size = s.size := skip_stop (fun h => by omega)
      have HE : Aside0 (nx s i = 0 ∧ skip s i = s.size) := ⟨by
        have h1 : skip s i = s.size := HS.out.symm.trans hst
        refine ⟨?_, h1⟩
        unfold nx
        rw [h1, if_neg (by omega)]⟩
      clear hst
      go_wp2_with fail
      go_quiet (fail)
      go_wp2_with fail
      go_quiet (fail)
      go_wp2_with fail
      go_ret
      exact ⟨rfl, by rw [HE.out.2]; exact HR.out, by first | exact HK.out.trans (Kb.drewN _ _) | exact (HK.out.trans (Kb.drewN _ _)).trans (Kb.drewN _ _) | exact ((HK.out.trans (Kb.drewN _ _)).trans (Kb.drewN _ _)).trans (Kb.drewN _ _)⟩
set_option maxRecDepth 100000 in
set_option maxHeartbeats 4000000 in
theorem fail_ok (b : Nat) (s : ByteArray) (i o a : Nat) (e0 er : Int) (w : World) (hR : Rq w b s i 0 o) :
    Calls Tryd.prog 60 #[.pointer (some ⟨b, 0, none⟩), .int .i64 (a : Int), .int .i64 er] w fun e w' => e = .returned (.agg #[.int .i64 0, .string ⟨#[]⟩, .slice none 0 0, .slice none 0 0]) ∧ Rq w' b s i er a ∧ Kb b w w' := by
  have hbl := blk_lt hR
  obtain ⟨wa, hwa, HA⟩ : ∃ wa, wa = w.alloc (.cells #[.int .i64 0, .string ⟨#[]⟩, .slice none 0 0, .slice none 0 0] 25) ∧ Aside0 (Below w.heap.size w wa) := ⟨_, rfl, ⟨below_alloc (Below.refl _ _) _⟩⟩
  have HN : Aside0 (wa.heap[w.heap.size]? = some (.cells #[.int .i64 0, .string ⟨#[]⟩, .slice none 0 0, .slice none 0 0] 25 (0, 0))) := ⟨by rw [hwa]; exact heap_alloc_new _ _⟩
  have HR := Aside0.mk (hR.below HA.out)
  have HW : Aside0 (w.alloc (.cells #[.int .i64 0, .string ⟨#[]⟩, .slice none 0 0, .slice none 0 0] 25) = wa) := ⟨hwa.symm⟩
  have HK : Aside0 (Kb b w wa) := ⟨Kb.of HA.out hbl⟩
  clear hR hwa
  go_enter Tryd.func60, Tryd.ntmps60
  go_upto_region 1 with (fail)
  rw [HW.out]
  obtain ⟨c0, c1, c2, c3, f1, f2, f3⟩ := HR.out.cells
  go_upto_region 3 with (fail)
  have HR2 := Aside0.mk (HR.out.err er a)
  have HN2 := Aside0.mk (blk_far (p := ⟨b, 3, none⟩) (blk_far (p := ⟨b, 2, none⟩) HN.out (by show w.heap.size ≠ b; omega) (.int .i64 er)) (by show w.heap.size ≠ b; omega) (.int .i64 (a : Int)))
  have HK2 := Aside0.mk ((HK.out.trans (Kb.set wa 2 (.int .i64 er))).trans (Kb.set _ 3 (.int .i64 (a : Int))))
  generalize (wa.setCell ⟨b, 2, none⟩ (.int .i64 er)).setCell ⟨b, 3, none⟩ (.int .i64 (a : Int)) = wb at HR2 HN2 HK2 ⊢
  clear c0 c1 c2 c3 f1 f2 f3
  have n0 := blk_cell HN2.out 0
  have n1 := blk_cell HN2.out 1
  have n2 := blk_cell HN2.out 2
  have n3 := blk_cell HN2.out 3
  simp at n0 n1 n2 n3
  have k0 := blk_frozen HN2.out 0
  have k1 := blk_frozen HN2.out 1
  have k2 := blk_frozen HN2.out 2
  have k3 := blk_frozen HN2.out 3
  go_wp2_with fail
  have hf := four_set HN2.out (.int .i64 0) (.string ⟨#[]⟩) (.slice none 0 0) (.slice none 0 0)
  have HRf := Aside0.mk (((((HR2.out.far (p := ⟨w.heap.size, 0, none⟩) (by show b ≠ w.heap.size; omega) (.int .i64 0)).far (p := ⟨w.heap.size, 1, none⟩) (by show b ≠ w.heap.size; omega) (.string ⟨#[]⟩)).far (p := ⟨w.heap.size, 2, none⟩) (by show b ≠ w.heap.size; omega) (.slice none 0 0))).far (p := ⟨w.heap.size, 3, none⟩) (by show b ≠ w.heap.size; omega) (.slice none 0 0))
  have HKf := Aside0.mk (((((HK2.out.far hbl (p := ⟨w.heap.size, 0, none⟩) (Nat.le_refl _) (.int .i64 0)).far hbl (p := ⟨w.heap.size, 1, none⟩) (Nat.le_refl _) (.string ⟨#[]⟩)).far hbl (p := ⟨w.heap.size, 2, none⟩) (Nat.le_refl _) (.slice none 0 0))).far hbl (p := ⟨w.heap.size, 3, none⟩) (Nat.le_refl _) (.slice none 0 0))
  generalize (((wb.setCell ⟨w.heap.size, 0, none⟩ (.int .i64 0)).setCell ⟨w.heap.size, 1, none⟩ (.string ⟨#[]⟩)).setCell ⟨w.heap.size, 2, none⟩ (.slice none 0 0)).setCell ⟨w.heap.size, 3, none⟩ (.slice none 0 0) = wf at hf HRf HKf ⊢
  have z0 := blk_cell hf 0
  have z1 := blk_cell hf 1
  have z2 := blk_cell hf 2
  have z3 := blk_cell hf 3
  simp at z0 z1 z2 z3
  clear hf
  refine bodyPost_ret (by simp [results, Tryd.results60, go_sem, z0, z1, z2, z3]; try rfl) rfl ?_
  exact ⟨rfl, HRf.out, HKf.out⟩
set_option maxRecDepth 100000 in
set_option maxHeartbeats 4000000 in
theorem fail_err (b : Nat) (s : ByteArray) (i o a : Nat) (e0 er : Int) (w : World) (hR : Rq w b s i e0 o) (he : e0 ≠ 0) :
    Calls Tryd.prog 60 #[.pointer (some ⟨b, 0, none⟩), .int .i64 (a : Int), .int .i64 er] w fun e w' => e = .returned (.agg #[.int .i64 0, .string ⟨#[]⟩, .slice none 0 0, .slice none 0 0]) ∧ Rq w' b s i e0 o ∧ Kb b w w' := by
  have hbl := blk_lt hR
  obtain ⟨wa, hwa, HA⟩ : ∃ wa, wa = w.alloc (.cells #[.int .i64 0, .string ⟨#[]⟩, .slice none 0 0, .slice none 0 0] 25) ∧ Aside0 (Below w.heap.size w wa) := ⟨_, rfl, ⟨below_alloc (Below.refl _ _) _⟩⟩
  have HN : Aside0 (wa.heap[w.heap.size]? = some (.cells #[.int .i64 0, .string ⟨#[]⟩, .slice none 0 0, .slice none 0 0] 25 (0, 0))) := ⟨by rw [hwa]; exact heap_alloc_new _ _⟩
  have HR := Aside0.mk (hR.below HA.out)
  have HW : Aside0 (w.alloc (.cells #[.int .i64 0, .string ⟨#[]⟩, .slice none 0 0, .slice none 0 0] 25) = wa) := ⟨hwa.symm⟩
  have HK : Aside0 (Kb b w wa) := ⟨Kb.of HA.out hbl⟩
  have hee : (e0 == 0) = false := by rw [beq_eq_false_iff_ne]; exact he
  clear hR hwa he
  go_enter Tryd.func60, Tryd.ntmps60
  go_upto_region 1 with (fail)
  rw [HW.out]
  obtain ⟨c0, c1, c2, c3, f1, f2, f3⟩ := HR.out.cells
  go_upto_region 3 with (fail)
  have HR2 := HR
  have HN2 := HN
  have HK2 := HK
  obtain ⟨wb, hwb⟩ : ∃ wb, wb = wa := ⟨_, rfl⟩
  rw [← hwb] at HR2 HN2 HK2 ⊢
  clear hwb
  clear c0 c1 c2 c3 f1 f2 f3
  have n0 := blk_cell HN2.out 0
  have n1 := blk_cell HN2.out 1
  have n2 := blk_cell HN2.out 2
  have n3 := blk_cell HN2.out 3
  simp at n0 n1 n2 n3
  have k0 := blk_frozen HN2.out 0
  have k1 := blk_frozen HN2.out 1
  have k2 := blk_frozen HN2.out 2
  have k3 := blk_frozen HN2.out 3
  go_wp2_with fail
  have hf := four_set HN2.out (.int .i64 0) (.string ⟨#[]⟩) (.slice none 0 0) (.slice none 0 0)
  have HRf := Aside0.mk (((((HR2.out.far (p := ⟨w.heap.size, 0, none⟩) (by show b ≠ w.heap.size; omega) (.int .i64 0)).far (p := ⟨w.heap.size, 1, none⟩) (by show b ≠ w.heap.size; omega) (.string ⟨#[]⟩)).far (p := ⟨w.heap.size, 2, none⟩) (by show b ≠ w.heap.size; omega) (.slice none 0 0))).far (p := ⟨w.heap.size, 3, none⟩) (by show b ≠ w.heap.size; omega) (.slice none 0 0))
  have HKf := Aside0.mk (((((HK2.out.far hbl (p := ⟨w.heap.size, 0, none⟩) (Nat.le_refl _) (.int .i64 0)).far hbl (p := ⟨w.heap.size, 1, none⟩) (Nat.le_refl _) (.string ⟨#[]⟩)).far hbl (p := ⟨w.heap.size, 2, none⟩) (Nat.le_refl _) (.slice none 0 0))).far hbl (p := ⟨w.heap.size, 3, none⟩) (Nat.le_refl _) (.slice none 0 0))
  generalize (((wb.setCell ⟨w.heap.size, 0, none⟩ (.int .i64 0)).setCell ⟨w.heap.size, 1, none⟩ (.string ⟨#[]⟩)).setCell ⟨w.heap.size, 2, none⟩ (.slice none 0 0)).setCell ⟨w.heap.size, 3, none⟩ (.slice none 0 0) = wf at hf HRf HKf ⊢
  have z0 := blk_cell hf 0
  have z1 := blk_cell hf 1
  have z2 := blk_cell hf 2
  have z3 := blk_cell hf 3
  simp at z0 z1 z2 z3
  clear hf
  refine bodyPost_ret (by simp [results, Tryd.results60, go_sem, z0, z1, z2, z3]; try rfl) rfl ?_
  exact ⟨rfl, HRf.out, HKf.out⟩
set_option maxRecDepth 100000 in
set_option maxHeartbeats 4000000 in
theorem sign_yes (b : Nat) (s : ByteArray) (i o c : Nat) (er : Int) (w : World) (hR : Rq w b s i 0 o) (hs : s.size ≤ 50000) (hi : i ≤ s.size) (hc : nx s i = c) (h0 : c ≠ 0) :
    Calls Tryd.prog 92 #[.pointer (some ⟨b, 0, none⟩), .int .u8 (c : Int)] w fun e w' => e = .returned (.bool true) ∧ Rq w' b s (skip s i + 1) 0 o ∧ Kb b w w' := by
  have hx := nx_in (s := s) (i := i) (by rw [hc]; exact h0)
  have CN := Aside0.mk (next_ok b s i o w hR hs hi)
  rw [hc] at CN
  obtain ⟨j, hj⟩ : ∃ j, skip s i = j := ⟨_, rfl⟩
  rw [hj] at hx CN ⊢
  have hs3 : (s.size : Int) ≤ 50000 := by omega
  have g1 : (j : Int) < (s.size : Int) := by omega
  clear hR hc hx hj
  go_enter Tryd.func92, Tryd.ntmps92
  go_wp2_with (go_at_call 59; (with_reducible refine CN.out.mono ?_); rintro e w1 ⟨rfl, hr, hk⟩; have HR1 := Aside0.mk hr; have HK1 := Aside0.mk hk; obtain ⟨c0, c1, c2, c3, f1, f2, f3⟩ := hr.cells; clear hr hk)
  go_ret
  exact ⟨rfl, Rq.to HR1.out (j + 1) _ (by simp), HK1.out.trans (Kb.set _ _ _)⟩
set_option maxRecDepth 100000 in
set_option maxHeartbeats 4000000 in
theorem sign_no (b : Nat) (s : ByteArray) (i o c : Nat) (er : Int) (w : World) (hR : Rq w b s i 0 o) (hs : s.size ≤ 50000) (hi : i ≤ s.size) (hc : nx s i ≠ c) :
    Calls Tryd.prog 92 #[.pointer (some ⟨b, 0, none⟩), .int .u8 (c : Int)] w fun e w' => e = .returned (.bool false) ∧ Rq w' b s (skip s i) 0 o ∧ Kb b w w' := by
  have CN := Aside0.mk (next_ok b s i o w hR hs hi)
  obtain ⟨x, hx⟩ : ∃ x, nx s i = x := ⟨_, rfl⟩
  rw [hx] at hc CN
  have hne : ((x : Int) != (c : Int)) = true := by rw [bne_iff_ne]; omega
  clear hR hc hx
  go_enter Tryd.func92, Tryd.ntmps92
  go_wp2_with (go_at_call 59; (with_reducible refine CN.out.mono ?_); rintro e w1 ⟨rfl, hr, hk⟩; have HR1 := Aside0.mk hr; have HK1 := Aside0.mk hk; obtain ⟨c0, c1, c2, c3, f1, f2, f3⟩ := hr.cells; clear hr hk)
  go_ret
  exact ⟨rfl, HR1.out, HK1.out⟩
set_option maxRecDepth 100000 in
set_option maxHeartbeats 4000000 in
theorem sign_err (b : Nat) (s : ByteArray) (i o c : Nat) (er : Int) (w : World) (hR : Rq w b s i er o) (he : er ≠ 0) (hs : s.size ≤ 50000) (hi : i ≤ s.size) (h0 : c ≠ 0) :
    Calls Tryd.prog 92 #[.pointer (some ⟨b, 0, none⟩), .int .u8 (c : Int)] w fun e w' => e = .returned (.bool false) ∧ Rq w' b s (skip s i) er o ∧ Kb b w w' := by
  have CN := Aside0.mk (next_err b s i o er w he hR hs hi)
  have hne : ((0 : Int) != (c : Int)) = true := by rw [bne_iff_ne]; omega
  clear hR he
  go_enter Tryd.func92, Tryd.ntmps92
  go_wp2_with (go_at_call 59; (with_reducible refine CN.out.mono ?_); rintro e w1 ⟨rfl, hr, hk⟩; have HR1 := Aside0.mk hr; have HK1 := Aside0.mk hk; obtain ⟨c0, c1, c2, c3, f1, f2, f3⟩ := hr.cells; clear hr hk)
  go_ret
  exact ⟨rfl, HR1.out, HK1.out⟩
/-- What a reading function leaves: a path from its own memory, or an error. -/
def PostP (b : Nat) (s : ByteArray) (w : World) (r : Res Pth) (e : Ending) (w' : World) : Prop :=
  ∃ (k : Int) (t : ByteArray) (A : Option Addr) (n c : Nat) (B : Option Addr) (m c' : Nat), e = .returned (.agg #[.int .i64 k, .string t, .slice A n c, .slice B m c']) ∧ Kb b w w' ∧
    (∀ p j, r = .ok p j → Rq w' b s j 0 0 ∧ PathAt w' (fun g => w.heap.size ≤ g) p [.int .i64 k, .string t, .slice A n c, .slice B m c']) ∧ (∀ er a, r = .no er a → er ≠ 0 ∧ ∃ i, i ≤ s.size ∧ Rq w' b s i er a)
theorem PostP.no {b : Nat} {s : ByteArray} {w w' : World} {i a : Nat} {er : Int} {k : Int} {t : ByteArray} {A : Option Addr} {n c : Nat} {B : Option Addr} {m c' : Nat} (hk : Kb b w w') (he : er ≠ 0) (hi : i ≤ s.size) (hr : Rq w' b s i er a) :
    PostP b s w (.no er a) (.returned (.agg #[.int .i64 k, .string t, .slice A n c, .slice B m c'])) w' :=
  ⟨k, t, A, n, c, B, m, c', rfl, hk, (fun p j h => by cases h), (fun er' a' h => by
    simp only [Res.no.injEq] at h
    obtain ⟨rfl, rfl⟩ := h
    exact ⟨he, _, hi, hr⟩)⟩
theorem PostP.ok {b : Nat} {s : ByteArray} {w w' : World} {j : Nat} {p : Pth} {k : Int} {t : ByteArray} {A : Option Addr} {n c : Nat} {B : Option Addr} {m c' : Nat} (hk : Kb b w w') (hr : Rq w' b s j 0 0) (hp : PathAt w' (fun g => w.heap.size ≤ g) p [.int .i64 k, .string t, .slice A n c, .slice B m c']) :
    PostP b s w (.ok p j) (.returned (.agg #[.int .i64 k, .string t, .slice A n c, .slice B m c'])) w' :=
  ⟨k, t, A, n, c, B, m, c', rfl, hk, (fun p' j' h => by
    simp only [Res.ok.injEq] at h
    obtain ⟨rfl, rfl⟩ := h
    exact ⟨hr, hp⟩), (fun er' a' h => by cases h)⟩
/-- The result's block, written. -/
theorem fin4 {w wb : World} {b A : Nat} {s : ByteArray} {i : Nat} {er : Int} {o : Nat} {ty : TypeId} {u0 u1 u2 u3 : Value} (hR : Rq wb b s i er o) (hK : Kb b w wb) (hb : b < w.heap.size) (hA : w.heap.size ≤ A) (hN : wb.heap[A]? = some (.cells #[u0, u1, u2, u3] ty (0, 0))) (v0 v1 v2 v3 : Value) :
    ∃ wf, wf = (((wb.setCell ⟨A, 0, none⟩ v0).setCell ⟨A, 1, none⟩ v1).setCell ⟨A, 2, none⟩ v2).setCell ⟨A, 3, none⟩ v3 ∧ Aside0 (Rq wf b s i er o) ∧ Aside0 (Kb b w wf) ∧ Aside0 (wf.heap[A]? = some (.cells #[v0, v1, v2, v3] ty (0, 0))) ∧
      Aside0 (∀ (ok : Nat → Prop) (p : Pth) (cs : List Value), (∀ k, ok k → k ≠ A) → PathAt wb ok p cs → PathAt wf ok p cs) ∧ Aside0 (∀ (g : Nat) (o : Obj), g ≠ A → wb.heap[g]? = some o → wf.heap[g]? = some o) ∧ Aside0 (wf.heap.size = wb.heap.size) :=
  ⟨_, rfl, ⟨(((hR.far (p := ⟨A, 0, none⟩) (by show b ≠ A; omega) v0).far (p := ⟨A, 1, none⟩) (by show b ≠ A; omega) v1).far (p := ⟨A, 2, none⟩) (by show b ≠ A; omega) v2).far (p := ⟨A, 3, none⟩) (by show b ≠ A; omega) v3⟩,
    ⟨(((hK.far hb (p := ⟨A, 0, none⟩) hA v0).far hb (p := ⟨A, 1, none⟩) hA v1).far hb (p := ⟨A, 2, none⟩) hA v2).far hb (p := ⟨A, 3, none⟩) hA v3⟩,
    ⟨four_set hN v0 v1 v2 v3⟩, ⟨fun ok p cs h hp => (((hp.far (q := ⟨A, 0, none⟩) h v0).far (q := ⟨A, 1, none⟩) h v1).far (q := ⟨A, 2, none⟩) h v2).far (q := ⟨A, 3, none⟩) h v3⟩,
    ⟨fun g o hg ho => (Below.heap_setCell _ ⟨A, 3, none⟩ v3 g hg).trans ((Below.heap_setCell _ ⟨A, 2, none⟩ v2 g hg).trans ((Below.heap_setCell _ ⟨A, 1, none⟩ v1 g hg).trans ((Below.heap_setCell _ ⟨A, 0, none⟩ v0 g hg).trans ho)))⟩,
    ⟨by simp [World.setCell]⟩⟩
end Go.Proofs.YtbaegfjoionojaaDoor.Qr
