/- The walks of the reference's reader: iri. -/
import Derived.Test.YtbaegfjoionojaaDoorQrA
import Derived.Test.YtbaegfjoionojaaDoorTmG
set_option linter.unusedSimpArgs false
set_option linter.unusedVariables false
namespace Go.Proofs.YtbaegfjoionojaaDoor.Qr
open Go Go.RowKit Go.Proofs.YtbaegfjoionojaaDoor.Tm Go.Proofs.YtbaegfjoionojaaDoor.Qy Go.Proofs.YtbaegfjoionojaaDoorW.PrintWords

set_option maxRecDepth 100000 in
set_option maxHeartbeats 4000000 in
theorem iri_no1 (b : Nat) (s : ByteArray) (i o : Nat) (w0 w : World) (hR : Rq w b s i 0 o) (hs : s.size ≤ 700) (hi : i ≤ s.size) (hT : Tabs w0) (hB : Below w0.heap.size w0 w) (hb : w0.heap.size ≤ b) (hn : nx s i ≠ 60) :
    Calls Tryd.prog 158 #[.pointer (some ⟨b, 0, none⟩)] w fun e w' => (e = .returned (.string ⟨#[]⟩) ∧ Rq w' b s (skip s i) 2 (skip s i)) ∧ Kb b w w' := by
  have hbl := blk_lt hR
  have CN := Aside0.mk (next_ok b s i o w hR (by omega) hi)
  have CF := Aside0.mk (fun W h => fail_ok b s (skip s i) o (skip s i) 0 2 W h)
  obtain ⟨x, hx⟩ : ∃ x, nx s i = x := ⟨_, rfl⟩
  rw [hx] at hn CN
  obtain ⟨j, hj⟩ : ∃ j, skip s i = j := ⟨_, rfl⟩
  rw [hj] at CN CF ⊢
  have hne : ((x : Int) != 60) = true := by rw [bne_iff_ne]; omega
  clear hR hn hx hj
  go_enter Tryd.func158, Tryd.ntmps158
  go_wp2_with (first
    | (go_at_call 59; (with_reducible refine CN.out.mono ?_); rintro e w1 ⟨rfl, hr, hk⟩; have HR1 := Aside0.mk hr; have HK1 := Aside0.mk hk; obtain ⟨c0, c1, c2, c3, f1, f2, f3⟩ := hr.cells; clear hr hk)
    | (go_at_call 60; (with_reducible refine (CF.out _ HR1.out).mono ?_); rintro e w4 ⟨rfl, hr, hk⟩; have HR4 := Aside0.mk hr; have HK4 := Aside0.mk hk; clear hr hk))
  go_ret
  exact ⟨⟨rfl, HR4.out⟩, HK1.out.trans HK4.out⟩
set_option maxRecDepth 100000 in
set_option maxHeartbeats 4000000 in
theorem iri_yes (b : Nat) (s : ByteArray) (i o : Nat) (w0 w : World) (hR : Rq w b s i 0 o) (hs : s.size ≤ 700) (hi : i ≤ s.size) (hT : Tabs w0) (hB : Below w0.heap.size w0 w) (hb : w0.heap.size ≤ b) (t : ByteArray) (k : Nat) (hn : nx s i = 60) (hf : findC s 62 (skip s i + 1) = some k) (ht : s.extract (skip s i + 1) k = t) (hok : iriB t = true) :
    Calls Tryd.prog 158 #[.pointer (some ⟨b, 0, none⟩)] w fun e w' => (e = .returned (.string t) ∧ Rq w' b s (k + 1) 0 o) ∧ Kb b w w' := by
  have hbl := blk_lt hR
  have hx0 := nx_in (s := s) (i := i) (by rw [hn]; decide)
  have CN := Aside0.mk (next_ok b s i o w hR (by omega) hi)
  rw [hn] at CN
  obtain ⟨j, hj⟩ : ∃ j, skip s i = j := ⟨_, rfl⟩
  rw [hj] at hx0 CN hf ht
  have hs3 : (s.size : Int) ≤ 700 := by omega
  have g1 : (j : Int) < (s.size : Int) := by omega
  have HF := Aside0.mk hf
  have hff := find_facts hf
  have htz : t.size ≤ 1000 := by rw [← ht, ByteArray.size_extract]; omega
  have CI : Aside0 (∀ W, Tabs W → Calls Tryd.prog 85 #[.string t] W fun e w' => e = .returned (.bool true) ∧ Below W.heap.size W w') := ⟨fun W h => by
    have := refIri_any t W (by omega) h
    rwa [hok] at this⟩
  clear hR hn hf hj hx0 hok
  go_enter Tryd.func158, Tryd.ntmps158
  go_wp2_with (go_at_call 59; (with_reducible refine CN.out.mono ?_); rintro e w1 ⟨rfl, hr, hk⟩; have HR1 := Aside0.mk hr; have HK1 := Aside0.mk hk; obtain ⟨c0, c1, c2, c3, f1, f2, f3⟩ := hr.cells; clear hr hk)
  go_loopw [3] (fun x wr => ∃ m : Nat, j + 1 ≤ m ∧ m ≤ s.size ∧ x = .int .i64 m ∧ Aside0 (findC s 62 m = some k) ∧ Aside0 (wr = w1)) (fun x _ => s.size - (intOf x).toNat)
  case atStart => exact ⟨j + 1, by omega, by omega, by go_num, ⟨HF.out⟩, ⟨rfl⟩⟩
  case round =>
    obtain ⟨m, hm, hms, rfl, HM, hw⟩ := hrel
    obtain rfl := hw.out
    have g3 : (m : Int) ≤ (s.size : Int) := by omega
    have g4 : (0 : Int) ≤ (m : Int) := by omega
    by_cases hlt : m < s.size
    · have g5 : (m : Int) < (s.size : Int) := by omega
      obtain ⟨x, hx⟩ : ∃ x, byteAt s m = x := ⟨_, rfl⟩
      have hxb := get_byte s m hlt
      rw [hx] at hxb
      by_cases h62 : x = 62
      · subst h62
        have hfk := (find_hit hlt hx).symm.trans HM.out
        clear hx
        obtain rfl : k = m := (Option.some.inj hfk).symm
        clear hfk
        have HTr := Aside0.mk (hT.below (hB.trans (HK1.out.1.mono hb)))
        have HS : Aside0 (∀ W, Below wr.heap.size wr W → (fun W : World => W.cell? ⟨b, 0, none⟩ = some (.string s) ∧ W.cell? ⟨b, 1, none⟩ = some (.int .i64 (j : Int))) W) := ⟨fun W h => ⟨(HR1.out.below h).cells.1, (HR1.out.below h).cells.2.1⟩⟩
        have hsl : ∀ W : World, (Instr.slice 9 (.string s) (some (.int .i64 ((j : Int) + 1))) (some (.int .i64 (k : Int))) none).run Tryd.prog W = .ok (.string t) W := fun W => by
          have := run_slice_string (P := Tryd.prog) W 9 s .i64 .i64 ((j : Int) + 1) (k : Int) Tryd.underlying9 (by omega) (by omega) (by omega)
          rwa [show ((j : Int) + 1).toNat = j + 1 by omega, show ((k : Int)).toNat = k by omega, ht] at this
        have hge : decide ((s.size : Int) ≤ (k : Int)) = false := by rw [decide_eq_false_iff_not]; omega
        have hge2 : decide (s.size ≤ k) = false := by rw [decide_eq_false_iff_not]; omega
        have hwj : IntKind.i64.wrap ((j : Int) + 1) = (j : Int) + 1 := IntWalk.i64_in _ (by omega)
        go_upto_region 7 with (fail)
        have hS : (fun W : World => W.cell? ⟨b, 0, none⟩ = some (.string s) ∧ W.cell? ⟨b, 1, none⟩ = some (.int .i64 (j : Int))) wr.drew := HS.out _ (below_drew (Below.refl wr.heap.size wr))
        refine wp_region_held (S := (fun W : World => W.cell? ⟨b, 0, none⟩ = some (.string s) ∧ W.cell? ⟨b, 1, none⟩ = some (.int .i64 (j : Int)))) (by kernel_rfl) ?_
        change wpAnyH _ _ _ _ _ _ _ _ wr.drew
        first | refine tkU 0 hS ?_ | (refine tkV 0 (v := ?_) hS ?_ ?_; rotate_left 1; · (intro w0 hSw; (try dsimp only at hSw); go_split_ands; go_simp; try with_reducible rfl)) | fail
        try simp only [Act.put, pL]
        first | refine tkU 1 hS ?_ | (refine tkV 1 (v := ?_) hS ?_ ?_; rotate_left 1; · (intro w0 hSw; (try dsimp only at hSw); go_split_ands; go_simp; try with_reducible rfl)) | fail
        try simp only [Act.put, pL]
        first | refine tkU 2 hS ?_ | (refine tkV 2 (v := ?_) hS ?_ ?_; rotate_left 1; · (intro w0 hSw; (try dsimp only at hSw); go_split_ands; go_simp; try with_reducible rfl)) | fail
        try simp only [Act.put, pL]
        first | refine tkU 3 hS ?_ | (refine tkV 3 (v := ?_) hS ?_ ?_; rotate_left 1; · (intro w0 hSw; (try dsimp only at hSw); go_split_ands; go_simp; try with_reducible rfl)) | fail
        try simp only [Act.put, pL]
        first | refine tkU 4 hS ?_ | (refine tkV 4 (v := ?_) hS ?_ ?_; rotate_left 1; · (intro w0 hSw; (try dsimp only at hSw); go_split_ands; go_simp; try with_reducible rfl)) | fail
        try simp only [Act.put, pL]
        first | refine tkU 5 hS ?_ | (refine tkV 5 (v := ?_) hS ?_ ?_; rotate_left 1; · (intro w0 hSw; (try dsimp only at hSw); go_split_ands; go_simp; try with_reducible rfl)) | fail
        try simp only [Act.put, pL]
        first | refine tkU 6 hS ?_ | (refine tkV 6 (v := ?_) hS ?_ ?_; rotate_left 1; · (intro w0 hSw; (try dsimp only at hSw); go_split_ands; go_simp; try with_reducible rfl)) | fail
        try simp only [Act.put, pL]
        first | refine tkU 7 hS ?_ | (refine tkV 7 (v := ?_) hS ?_ ?_; rotate_left 1; · (intro w0 hSw; (try dsimp only at hSw); go_split_ands; go_simp; try with_reducible rfl)) | fail
        try simp only [Act.put, pL]
        first | refine tkU 8 hS ?_ | (refine tkV 8 (v := ?_) hS ?_ ?_; rotate_left 1; · (intro w0 hSw; (try dsimp only at hSw); go_split_ands; go_simp; try with_reducible rfl)) | fail
        try simp only [Act.put, pL]
        first | refine tkU 9 hS ?_ | (refine tkV 9 (v := ?_) hS ?_ ?_; rotate_left 1; · (intro w0 hSw; (try dsimp only at hSw); go_split_ands; go_simp; try with_reducible rfl)) | fail
        try simp only [Act.put, pL]
        first | refine tkU 10 hS ?_ | (refine tkV 10 (v := ?_) hS ?_ ?_; rotate_left 1; · (intro w0 hSw; (try dsimp only at hSw); go_split_ands; go_simp; try with_reducible rfl)) | fail
        try simp only [Act.put, pL]
        first | refine tkU 11 hS ?_ | (refine tkV 11 (v := ?_) hS ?_ ?_; rotate_left 1; · (intro w0 hSw; (try dsimp only at hSw); go_split_ands; go_simp; try with_reducible rfl)) | fail
        try simp only [Act.put, pL]
        first | refine tkU 12 hS ?_ | (refine tkV 12 (v := ?_) hS ?_ ?_; rotate_left 1; · (intro w0 hSw; (try dsimp only at hSw); go_split_ands; go_simp; try with_reducible rfl)) | fail
        try simp only [Act.put, pL]
        first | refine tkU 13 hS ?_ | (refine tkV 13 (v := ?_) hS ?_ ?_; rotate_left 1; · (intro w0 hSw; (try dsimp only at hSw); go_split_ands; go_simp; try with_reducible rfl)) | fail
        try simp only [Act.put, pL]
        first | refine tkU 14 hS ?_ | (refine tkV 14 (v := ?_) hS ?_ ?_; rotate_left 1; · (intro w0 hSw; (try dsimp only at hSw); go_split_ands; go_simp; try with_reducible rfl)) | fail
        try simp only [Act.put, pL]
        first | refine tkU 15 hS ?_ | (refine tkV 15 (v := ?_) hS ?_ ?_; rotate_left 1; · (intro w0 hSw; (try dsimp only at hSw); go_split_ands; go_simp; try with_reducible rfl)) | fail
        try simp only [Act.put, pL]
        first | refine tkU 16 hS ?_ | (refine tkV 16 (v := ?_) hS ?_ ?_; rotate_left 1; · (intro w0 hSw; (try dsimp only at hSw); go_split_ands; go_simp; try with_reducible rfl)) | fail
        try simp only [Act.put, pL]
        first | refine tkU 17 hS ?_ | (refine tkV 17 (v := ?_) hS ?_ ?_; rotate_left 1; · (intro w0 hSw; (try dsimp only at hSw); go_split_ands; go_simp; try with_reducible rfl)) | fail
        try simp only [Act.put, pL]
        first | refine tkU 18 hS ?_ | (refine tkV 18 (v := ?_) hS ?_ ?_; rotate_left 1; · (intro w0 hSw; (try dsimp only at hSw); go_split_ands; go_simp; try with_reducible rfl)) | fail
        try simp only [Act.put, pL]
        refine wpAnyH_ready (rs := [19]) (by kernel_rfl) (by simp) ?_
        refine AllReadyH.cons rfl (fun K hK => ?_) AllReadyH.nil
        go_simp
        refine (CI.out _ (HTr.out.below (below_drew (Below.refl wr.heap.size wr)))).mono ?_
        rintro e w2 ⟨rfl, hb2⟩
        have HB2 := Aside0.mk (below_then (below_drew (Below.refl wr.heap.size wr)) (Nat.le_refl _) hb2)
        clear hb2 hS
        have hS : (fun W : World => W.cell? ⟨b, 0, none⟩ = some (.string s) ∧ W.cell? ⟨b, 1, none⟩ = some (.int .i64 (j : Int))) w2 := HS.out _ HB2.out
        refine hK.out _ _ hS (fun _ => ?_)
        clear hK K
        try simp only [Act.put, pL]
        first | refine tkU 20 hS ?_ | (refine tkV 20 (v := ?_) hS ?_ ?_; rotate_left 1; · (intro w0 hSw; (try dsimp only at hSw); go_split_ands; go_simp; try with_reducible rfl)) | fail
        try simp only [Act.put, pL]
        first | refine tkU 21 hS ?_ | (refine tkV 21 (v := ?_) hS ?_ ?_; rotate_left 1; · (intro w0 hSw; (try dsimp only at hSw); go_split_ands; go_simp; try with_reducible rfl)) | fail
        try simp only [Act.put, pL]
        refine wpAnyH_done (by kernel_rfl) ?_ _
        have HR2 := Aside0.mk (HR1.out.below HB2.out)
        have HK2 := Aside0.mk (HK1.out.trans (Kb.of HB2.out (by have := HK1.out.size; omega)))
        clear hS c0 c1 c2 c3 f1 f2 f3
        obtain ⟨c0, c1, c2, c3, f1, f2, f3⟩ := HR2.out.cells
        go_upto_region 10 with (fail)
        go_wp2_with fail
        go_quiet (fail)
        go_wp2_with fail
        go_ret
        exact ⟨⟨rfl, Rq.to (HR2.out.drewN _) (k + 1) _ (by simp)⟩, (HK2.out.trans (Kb.drewN _ _)).trans (Kb.set _ _ _)⟩
      · have hfm := find_go hlt (by rw [hx]; exact h62)
        have HM2 : Aside0 (findC s 62 (m + 1) = some k) := ⟨by rw [← hfm]; exact HM.out⟩
        have hne : ((x : Int) != 62) = true := by rw [bne_iff_ne]; omega
        clear hx hfm h62
        go_wp2_with fail
        go_roundw
        case rel => exact ⟨m + 1, by omega, by omega, by go_num, HM2, ⟨by first | trivial | rfl⟩⟩
        case measure => simp [intOf]; omega
    · have hfk := (find_end (s := s) (c := 62) (i := m) (by omega)).symm.trans HM.out
      have g5 : (s.size : Int) ≤ (m : Int) := by omega
      cases hfk
set_option maxRecDepth 100000 in
set_option maxHeartbeats 4000000 in
theorem iri_no2 (b : Nat) (s : ByteArray) (i o : Nat) (w0 w : World) (hR : Rq w b s i 0 o) (hs : s.size ≤ 700) (hi : i ≤ s.size) (hT : Tabs w0) (hB : Below w0.heap.size w0 w) (hb : w0.heap.size ≤ b) (t : ByteArray) (k : Nat) (hn : nx s i = 60) (hf : findC s 62 (skip s i + 1) = some k) (ht : s.extract (skip s i + 1) k = t) (hok : iriB t = false) :
    Calls Tryd.prog 158 #[.pointer (some ⟨b, 0, none⟩)] w fun e w' => (e = .returned (.string ⟨#[]⟩) ∧ Rq w' b s (skip s i) 2 (skip s i)) ∧ Kb b w w' := by
  have hbl := blk_lt hR
  have hx0 := nx_in (s := s) (i := i) (by rw [hn]; decide)
  have CN := Aside0.mk (next_ok b s i o w hR (by omega) hi)
  rw [hn] at CN
  obtain ⟨j, hj⟩ : ∃ j, skip s i = j := ⟨_, rfl⟩
  rw [hj] at hx0 CN hf ht ⊢
  have hs3 : (s.size : Int) ≤ 700 := by omega
  have g1 : (j : Int) < (s.size : Int) := by omega
  have HF := Aside0.mk hf
  have hff := find_facts hf
  have htz : t.size ≤ 1000 := by rw [← ht, ByteArray.size_extract]; omega
  have CF := Aside0.mk (fun W h => fail_ok b s j o j 0 2 W h)
  have CI : Aside0 (∀ W, Tabs W → Calls Tryd.prog 85 #[.string t] W fun e w' => e = .returned (.bool false) ∧ Below W.heap.size W w') := ⟨fun W h => by
    have := refIri_any t W (by omega) h
    rwa [hok] at this⟩
  clear hR hn hf hj hx0 hok
  go_enter Tryd.func158, Tryd.ntmps158
  go_wp2_with (go_at_call 59; (with_reducible refine CN.out.mono ?_); rintro e w1 ⟨rfl, hr, hk⟩; have HR1 := Aside0.mk hr; have HK1 := Aside0.mk hk; obtain ⟨c0, c1, c2, c3, f1, f2, f3⟩ := hr.cells; clear hr hk)
  go_loopw [3] (fun x wr => ∃ m : Nat, j + 1 ≤ m ∧ m ≤ s.size ∧ x = .int .i64 m ∧ Aside0 (findC s 62 m = some k) ∧ Aside0 (wr = w1)) (fun x _ => s.size - (intOf x).toNat)
  case atStart => exact ⟨j + 1, by omega, by omega, by go_num, ⟨HF.out⟩, ⟨rfl⟩⟩
  case round =>
    obtain ⟨m, hm, hms, rfl, HM, hw⟩ := hrel
    obtain rfl := hw.out
    have g3 : (m : Int) ≤ (s.size : Int) := by omega
    have g4 : (0 : Int) ≤ (m : Int) := by omega
    by_cases hlt : m < s.size
    · have g5 : (m : Int) < (s.size : Int) := by omega
      obtain ⟨x, hx⟩ : ∃ x, byteAt s m = x := ⟨_, rfl⟩
      have hxb := get_byte s m hlt
      rw [hx] at hxb
      by_cases h62 : x = 62
      · subst h62
        have hfk := (find_hit hlt hx).symm.trans HM.out
        clear hx
        obtain rfl : k = m := (Option.some.inj hfk).symm
        clear hfk
        have HTr := Aside0.mk (hT.below (hB.trans (HK1.out.1.mono hb)))
        have HS : Aside0 (∀ W, Below wr.heap.size wr W → (fun W : World => W.cell? ⟨b, 0, none⟩ = some (.string s) ∧ W.cell? ⟨b, 1, none⟩ = some (.int .i64 (j : Int))) W) := ⟨fun W h => ⟨(HR1.out.below h).cells.1, (HR1.out.below h).cells.2.1⟩⟩
        have hsl : ∀ W : World, (Instr.slice 9 (.string s) (some (.int .i64 ((j : Int) + 1))) (some (.int .i64 (k : Int))) none).run Tryd.prog W = .ok (.string t) W := fun W => by
          have := run_slice_string (P := Tryd.prog) W 9 s .i64 .i64 ((j : Int) + 1) (k : Int) Tryd.underlying9 (by omega) (by omega) (by omega)
          rwa [show ((j : Int) + 1).toNat = j + 1 by omega, show ((k : Int)).toNat = k by omega, ht] at this
        have hge : decide ((s.size : Int) ≤ (k : Int)) = false := by rw [decide_eq_false_iff_not]; omega
        have hge2 : decide (s.size ≤ k) = false := by rw [decide_eq_false_iff_not]; omega
        have hwj : IntKind.i64.wrap ((j : Int) + 1) = (j : Int) + 1 := IntWalk.i64_in _ (by omega)
        go_upto_region 7 with (fail)
        have hS : (fun W : World => W.cell? ⟨b, 0, none⟩ = some (.string s) ∧ W.cell? ⟨b, 1, none⟩ = some (.int .i64 (j : Int))) wr.drew := HS.out _ (below_drew (Below.refl wr.heap.size wr))
        refine wp_region_held (S := (fun W : World => W.cell? ⟨b, 0, none⟩ = some (.string s) ∧ W.cell? ⟨b, 1, none⟩ = some (.int .i64 (j : Int)))) (by kernel_rfl) ?_
        change wpAnyH _ _ _ _ _ _ _ _ wr.drew
        first | refine tkU 0 hS ?_ | (refine tkV 0 (v := ?_) hS ?_ ?_; rotate_left 1; · (intro w0 hSw; (try dsimp only at hSw); go_split_ands; go_simp; try with_reducible rfl)) | fail
        try simp only [Act.put, pL]
        first | refine tkU 1 hS ?_ | (refine tkV 1 (v := ?_) hS ?_ ?_; rotate_left 1; · (intro w0 hSw; (try dsimp only at hSw); go_split_ands; go_simp; try with_reducible rfl)) | fail
        try simp only [Act.put, pL]
        first | refine tkU 2 hS ?_ | (refine tkV 2 (v := ?_) hS ?_ ?_; rotate_left 1; · (intro w0 hSw; (try dsimp only at hSw); go_split_ands; go_simp; try with_reducible rfl)) | fail
        try simp only [Act.put, pL]
        first | refine tkU 3 hS ?_ | (refine tkV 3 (v := ?_) hS ?_ ?_; rotate_left 1; · (intro w0 hSw; (try dsimp only at hSw); go_split_ands; go_simp; try with_reducible rfl)) | fail
        try simp only [Act.put, pL]
        first | refine tkU 4 hS ?_ | (refine tkV 4 (v := ?_) hS ?_ ?_; rotate_left 1; · (intro w0 hSw; (try dsimp only at hSw); go_split_ands; go_simp; try with_reducible rfl)) | fail
        try simp only [Act.put, pL]
        first | refine tkU 5 hS ?_ | (refine tkV 5 (v := ?_) hS ?_ ?_; rotate_left 1; · (intro w0 hSw; (try dsimp only at hSw); go_split_ands; go_simp; try with_reducible rfl)) | fail
        try simp only [Act.put, pL]
        first | refine tkU 6 hS ?_ | (refine tkV 6 (v := ?_) hS ?_ ?_; rotate_left 1; · (intro w0 hSw; (try dsimp only at hSw); go_split_ands; go_simp; try with_reducible rfl)) | fail
        try simp only [Act.put, pL]
        first | refine tkU 7 hS ?_ | (refine tkV 7 (v := ?_) hS ?_ ?_; rotate_left 1; · (intro w0 hSw; (try dsimp only at hSw); go_split_ands; go_simp; try with_reducible rfl)) | fail
        try simp only [Act.put, pL]
        first | refine tkU 8 hS ?_ | (refine tkV 8 (v := ?_) hS ?_ ?_; rotate_left 1; · (intro w0 hSw; (try dsimp only at hSw); go_split_ands; go_simp; try with_reducible rfl)) | fail
        try simp only [Act.put, pL]
        first | refine tkU 9 hS ?_ | (refine tkV 9 (v := ?_) hS ?_ ?_; rotate_left 1; · (intro w0 hSw; (try dsimp only at hSw); go_split_ands; go_simp; try with_reducible rfl)) | fail
        try simp only [Act.put, pL]
        first | refine tkU 10 hS ?_ | (refine tkV 10 (v := ?_) hS ?_ ?_; rotate_left 1; · (intro w0 hSw; (try dsimp only at hSw); go_split_ands; go_simp; try with_reducible rfl)) | fail
        try simp only [Act.put, pL]
        first | refine tkU 11 hS ?_ | (refine tkV 11 (v := ?_) hS ?_ ?_; rotate_left 1; · (intro w0 hSw; (try dsimp only at hSw); go_split_ands; go_simp; try with_reducible rfl)) | fail
        try simp only [Act.put, pL]
        first | refine tkU 12 hS ?_ | (refine tkV 12 (v := ?_) hS ?_ ?_; rotate_left 1; · (intro w0 hSw; (try dsimp only at hSw); go_split_ands; go_simp; try with_reducible rfl)) | fail
        try simp only [Act.put, pL]
        first | refine tkU 13 hS ?_ | (refine tkV 13 (v := ?_) hS ?_ ?_; rotate_left 1; · (intro w0 hSw; (try dsimp only at hSw); go_split_ands; go_simp; try with_reducible rfl)) | fail
        try simp only [Act.put, pL]
        first | refine tkU 14 hS ?_ | (refine tkV 14 (v := ?_) hS ?_ ?_; rotate_left 1; · (intro w0 hSw; (try dsimp only at hSw); go_split_ands; go_simp; try with_reducible rfl)) | fail
        try simp only [Act.put, pL]
        first | refine tkU 15 hS ?_ | (refine tkV 15 (v := ?_) hS ?_ ?_; rotate_left 1; · (intro w0 hSw; (try dsimp only at hSw); go_split_ands; go_simp; try with_reducible rfl)) | fail
        try simp only [Act.put, pL]
        first | refine tkU 16 hS ?_ | (refine tkV 16 (v := ?_) hS ?_ ?_; rotate_left 1; · (intro w0 hSw; (try dsimp only at hSw); go_split_ands; go_simp; try with_reducible rfl)) | fail
        try simp only [Act.put, pL]
        first | refine tkU 17 hS ?_ | (refine tkV 17 (v := ?_) hS ?_ ?_; rotate_left 1; · (intro w0 hSw; (try dsimp only at hSw); go_split_ands; go_simp; try with_reducible rfl)) | fail
        try simp only [Act.put, pL]
        first | refine tkU 18 hS ?_ | (refine tkV 18 (v := ?_) hS ?_ ?_; rotate_left 1; · (intro w0 hSw; (try dsimp only at hSw); go_split_ands; go_simp; try with_reducible rfl)) | fail
        try simp only [Act.put, pL]
        refine wpAnyH_ready (rs := [19]) (by kernel_rfl) (by simp) ?_
        refine AllReadyH.cons rfl (fun K hK => ?_) AllReadyH.nil
        go_simp
        refine (CI.out _ (HTr.out.below (below_drew (Below.refl wr.heap.size wr)))).mono ?_
        rintro e w2 ⟨rfl, hb2⟩
        have HB2 := Aside0.mk (below_then (below_drew (Below.refl wr.heap.size wr)) (Nat.le_refl _) hb2)
        clear hb2 hS
        have hS : (fun W : World => W.cell? ⟨b, 0, none⟩ = some (.string s) ∧ W.cell? ⟨b, 1, none⟩ = some (.int .i64 (j : Int))) w2 := HS.out _ HB2.out
        refine hK.out _ _ hS (fun _ => ?_)
        clear hK K
        try simp only [Act.put, pL]
        first | refine tkU 20 hS ?_ | (refine tkV 20 (v := ?_) hS ?_ ?_; rotate_left 1; · (intro w0 hSw; (try dsimp only at hSw); go_split_ands; go_simp; try with_reducible rfl)) | fail
        try simp only [Act.put, pL]
        first | refine tkU 21 hS ?_ | (refine tkV 21 (v := ?_) hS ?_ ?_; rotate_left 1; · (intro w0 hSw; (try dsimp only at hSw); go_split_ands; go_simp; try with_reducible rfl)) | fail
        try simp only [Act.put, pL]
        refine wpAnyH_done (by kernel_rfl) ?_ _
        have HR2 := Aside0.mk (HR1.out.below HB2.out)
        have HK2 := Aside0.mk (HK1.out.trans (Kb.of HB2.out (by have := HK1.out.size; omega)))
        clear hS c0 c1 c2 c3 f1 f2 f3
        obtain ⟨c0, c1, c2, c3, f1, f2, f3⟩ := HR2.out.cells
        go_wp2_with (go_at_call 60; (with_reducible refine (CF.out _ HR2.out).mono ?_); rintro e w4 ⟨rfl, hr, hk⟩; have HR4 := Aside0.mk hr; have HK4 := Aside0.mk hk; clear hr hk)
        go_ret
        exact ⟨⟨rfl, HR4.out⟩, HK2.out.trans HK4.out⟩
      · have hfm := find_go hlt (by rw [hx]; exact h62)
        have HM2 : Aside0 (findC s 62 (m + 1) = some k) := ⟨by rw [← hfm]; exact HM.out⟩
        have hne : ((x : Int) != 62) = true := by rw [bne_iff_ne]; omega
        clear hx hfm h62
        go_wp2_with fail
        go_roundw
        case rel => exact ⟨m + 1, by omega, by omega, by go_num, HM2, ⟨by first | trivial | rfl⟩⟩
        case measure => simp [intOf]; omega
    · have hfk := (find_end (s := s) (c := 62) (i := m) (by omega)).symm.trans HM.out
      have g5 : (s.size : Int) ≤ (m : Int) := by omega
      cases hfk
set_option maxRecDepth 100000 in
set_option maxHeartbeats 4000000 in
theorem iri_no3 (b : Nat) (s : ByteArray) (i o : Nat) (w0 w : World) (hR : Rq w b s i 0 o) (hs : s.size ≤ 700) (hi : i ≤ s.size) (hT : Tabs w0) (hB : Below w0.heap.size w0 w) (hb : w0.heap.size ≤ b) (hn : nx s i = 60) (hf : findC s 62 (skip s i + 1) = none) :
    Calls Tryd.prog 158 #[.pointer (some ⟨b, 0, none⟩)] w fun e w' => (e = .returned (.string ⟨#[]⟩) ∧ Rq w' b s (skip s i) 2 (skip s i)) ∧ Kb b w w' := by
  have hbl := blk_lt hR
  have hx0 := nx_in (s := s) (i := i) (by rw [hn]; decide)
  have CN := Aside0.mk (next_ok b s i o w hR (by omega) hi)
  rw [hn] at CN
  obtain ⟨j, hj⟩ : ∃ j, skip s i = j := ⟨_, rfl⟩
  rw [hj] at hx0 CN hf ⊢
  have hs3 : (s.size : Int) ≤ 700 := by omega
  have g1 : (j : Int) < (s.size : Int) := by omega
  have HF := Aside0.mk hf
  have CF := Aside0.mk (fun W h => fail_ok b s j o j 0 2 W h)
  clear hR hn hf hj hx0
  go_enter Tryd.func158, Tryd.ntmps158
  go_wp2_with (go_at_call 59; (with_reducible refine CN.out.mono ?_); rintro e w1 ⟨rfl, hr, hk⟩; have HR1 := Aside0.mk hr; have HK1 := Aside0.mk hk; obtain ⟨c0, c1, c2, c3, f1, f2, f3⟩ := hr.cells; clear hr hk)
  go_loopw [3] (fun x wr => ∃ m : Nat, j + 1 ≤ m ∧ m ≤ s.size ∧ x = .int .i64 m ∧ Aside0 (findC s 62 m = none) ∧ Aside0 (wr = w1)) (fun x _ => s.size - (intOf x).toNat)
  case atStart => exact ⟨j + 1, by omega, by omega, by go_num, ⟨HF.out⟩, ⟨rfl⟩⟩
  case round =>
    obtain ⟨m, hm, hms, rfl, HM, hw⟩ := hrel
    obtain rfl := hw.out
    have g3 : (m : Int) ≤ (s.size : Int) := by omega
    have g4 : (0 : Int) ≤ (m : Int) := by omega
    by_cases hlt : m < s.size
    · have g5 : (m : Int) < (s.size : Int) := by omega
      obtain ⟨x, hx⟩ : ∃ x, byteAt s m = x := ⟨_, rfl⟩
      have hxb := get_byte s m hlt
      rw [hx] at hxb
      by_cases h62 : x = 62
      · subst h62
        have hfk := (find_hit hlt hx).symm.trans HM.out
        clear hx
        cases hfk
      · have hfm := find_go hlt (by rw [hx]; exact h62)
        have HM2 : Aside0 (findC s 62 (m + 1) = none) := ⟨by rw [← hfm]; exact HM.out⟩
        have hne : ((x : Int) != 62) = true := by rw [bne_iff_ne]; omega
        clear hx hfm h62
        go_wp2_with fail
        go_roundw
        case rel => exact ⟨m + 1, by omega, by omega, by go_num, HM2, ⟨by first | trivial | rfl⟩⟩
        case measure => simp [intOf]; omega
    · have hfk := (find_end (s := s) (c := 62) (i := m) (by omega)).symm.trans HM.out
      have g5 : (s.size : Int) ≤ (m : Int) := by omega
      clear hfk
      have hge : decide ((s.size : Int) ≤ (m : Int)) = true := by rw [decide_eq_true_eq]; omega
      have hge2 : decide (s.size ≤ m) = true := by rw [decide_eq_true_eq]; omega
      go_wp2_with fail
      go_quiet (fail)
      have HR2 : Aside0 (Rq (wr.drewN nq) b s j 0 o) := ⟨HR1.out⟩
      have HK2 := Aside0.mk (HK1.out.trans (Kb.drewN wr nq))
      generalize wr.drewN nq = w2 at HR2 HK2 ⊢
      clear c0 c1 c2 c3 f1 f2 f3
      obtain ⟨c0, c1, c2, c3, f1, f2, f3⟩ := HR2.out.cells
      go_wp2_with (go_at_call 60; (with_reducible refine (CF.out _ HR2.out).mono ?_); rintro e w4 ⟨rfl, hr, hk⟩; have HR4 := Aside0.mk hr; have HK4 := Aside0.mk hk; clear hr hk)
      go_ret
      exact ⟨⟨rfl, HR4.out⟩, HK2.out.trans HK4.out⟩
/-- What iri leaves. -/
def PostI (b : Nat) (s : ByteArray) (w : World) (o : Nat) (r : Res ByteArray) (e : Ending) (w' : World) : Prop :=
  ∃ t, e = .returned (.string t) ∧ Kb b w w' ∧ (∀ t' j, r = .ok t' j → t = t' ∧ Rq w' b s j 0 o) ∧ (∀ er a, r = .no er a → er ≠ 0 ∧ ∃ i, i ≤ s.size ∧ Rq w' b s i er a)
theorem PostI.no {b : Nat} {s : ByteArray} {w w' : World} {o i a : Nat} {er : Int} {t : ByteArray} (hk : Kb b w w') (he : er ≠ 0) (hi : i ≤ s.size) (hr : Rq w' b s i er a) : PostI b s w o (.no er a) (.returned (.string t)) w' :=
  ⟨t, rfl, hk, (fun t' j h => by cases h), (fun er' a' h => by
    simp only [Res.no.injEq] at h
    obtain ⟨rfl, rfl⟩ := h
    exact ⟨he, _, hi, hr⟩)⟩
theorem PostI.ok {b : Nat} {s : ByteArray} {w w' : World} {o j : Nat} {t : ByteArray} (hk : Kb b w w') (hr : Rq w' b s j 0 o) : PostI b s w o (.ok t j) (.returned (.string t)) w' :=
  ⟨t, rfl, hk, (fun t' j h => by
    simp only [Res.ok.injEq] at h
    obtain ⟨rfl, rfl⟩ := h
    exact ⟨rfl, hr⟩), (fun er' a' h => by cases h)⟩
theorem iri_res (b : Nat) (s : ByteArray) (i o : Nat) (w0 w : World) (hR : Rq w b s i 0 o) (hs : s.size ≤ 700) (hi : i ≤ s.size) (hT : Tabs w0) (hB : Below w0.heap.size w0 w) (hb : w0.heap.size ≤ b) :
    Calls Tryd.prog 158 #[.pointer (some ⟨b, 0, none⟩)] w (PostI b s w o (iriS s i)) := by
  unfold iriS
  by_cases hn : nx s i = 60
  · rw [if_pos hn]
    cases hf : findC s 62 (skip s i + 1) with
    | none =>
      refine (iri_no3 b s i o w0 w hR hs hi hT hB hb hn hf).mono ?_
      rintro e w' ⟨⟨rfl, hr⟩, hk⟩
      exact PostI.no hk (by decide) (skip_le hi) hr
    | some k =>
      simp only
      cases hok : iriB (s.extract (skip s i + 1) k) with
      | true =>
        rw [if_pos rfl]
        refine (iri_yes b s i o w0 w hR hs hi hT hB hb _ k hn hf rfl hok).mono ?_
        rintro e w' ⟨⟨rfl, hr⟩, hk⟩
        exact PostI.ok hk hr
      | false =>
        rw [if_neg (by simp)]
        refine (iri_no2 b s i o w0 w hR hs hi hT hB hb _ k hn hf rfl hok).mono ?_
        rintro e w' ⟨⟨rfl, hr⟩, hk⟩
        exact PostI.no hk (by decide) (skip_le hi) hr
  · rw [if_neg hn]
    refine (iri_no1 b s i o w0 w hR hs hi hT hB hb hn).mono ?_
    rintro e w' ⟨⟨rfl, hr⟩, hk⟩
    exact PostI.no hk (by decide) (skip_le hi) hr
end Go.Proofs.YtbaegfjoionojaaDoor.Qr
