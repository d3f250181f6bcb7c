/- The walk of the reference's Show. -/
import Derived.Test.YtbaegfjoionojaaDoorQyI
set_option linter.unusedSimpArgs false
set_option linter.unusedVariables false
namespace Go.Proofs.YtbaegfjoionojaaDoor.Qr
open Go Go.RowKit Go.Proofs.YtbaegfjoionojaaDoor.Tm Go.Proofs.YtbaegfjoionojaaDoor.Qy Go.Proofs.YtbaegfjoionojaaDoorW.PrintWords

set_option maxRecDepth 100000 in
set_option maxHeartbeats 8000000 in
theorem br_any (q : Pth) (hl : (showP q).length ≤ 1000000) (hS : ShowC 30 q (showB q)) : ShowC 61 q (withinB q) := by
  intro w ok k t A n c B m d hp
  obtain ⟨wb, hwb, HB, HN⟩ := boxP w k t A n c B m d
  have HHW : Aside0 (w.alloc (.cells #[.int .i64 k, .string t, .slice A n c, .slice B m d] 25) = wb) := ⟨hwb.symm⟩
  have hk : q.k = k := by
    obtain ⟨k1, t1, ts1, ks1⟩ := q
    obtain ⟨A1, c1, B1, d1, e, _⟩ := path_cells hp
    simp only [List.cons.injEq, Value.int.injEq] at e
    exact e.1.2.symm
  have CS := Aside0.mk (hS wb ok k t A n c B m d (hp.below HB.out))
  obtain ⟨x, hx⟩ : ∃ x, showB q = x := ⟨_, rfl⟩
  have hxs : x.size ≤ 1000000 := by rw [← hx]; unfold showB; rw [ba_size]; exact hl
  rw [hx] at CS
  by_cases h1 : k = 1
  · have HW : Aside0 (withinB q = x) := ⟨by rw [← hx]; unfold withinB showB inB; rw [hk, if_pos h1]⟩
    subst h1
    clear hwb hk hx hS hp
    go_enter Tryd.func61, Tryd.ntmps61
    go_upto_region 1 with (fail)
    rw [HHW.out]
    have q0 := blk_cell HN.out 0
    have q1 := blk_cell HN.out 1
    have q2 := blk_cell HN.out 2
    have q3 := blk_cell HN.out 3
    simp at q0 q1 q2 q3
    go_wp2_with (go_at_call 30; (with_reducible refine CS.out.mono ?_); rintro e w1 ⟨rfl, hb⟩; have HB1 := Aside0.mk (below_then HB.out HB.out.size hb); clear hb)
    go_ret
    exact ⟨ret_str HW.out.symm, HB1.out⟩
  · have HW : Aside0 (withinB q = (⟨#[40]⟩ : ByteArray) ++ x ++ (⟨#[41]⟩ : ByteArray)) := ⟨by
      rw [← hx]; unfold withinB showB inB; rw [hk, if_neg h1]
      apply ByteArray.ext
      rw [ByteArray.data_append, ByteArray.data_append]
      simp⟩
    have hkn : (k == 1) = false := by rw [beq_eq_false_iff_ne]; exact h1
    clear hwb hk hx hS hp h1
    go_enter Tryd.func61, Tryd.ntmps61
    go_upto_region 1 with (fail)
    rw [HHW.out]
    have q0 := blk_cell HN.out 0
    have q1 := blk_cell HN.out 1
    have q2 := blk_cell HN.out 2
    have q3 := blk_cell HN.out 3
    simp at q0 q1 q2 q3
    go_wp2_with (go_at_call 30; (with_reducible refine CS.out.mono ?_); rintro e w1 ⟨rfl, hb⟩; have HB1 := Aside0.mk (below_then HB.out HB.out.size hb); clear hb)
    go_ret
    exact ⟨ret_str HW.out.symm, HB1.out⟩
set_option maxRecDepth 100000 in
set_option maxHeartbeats 8000000 in
theorem show_iri (t0 : ByteArray) (ht0 : iriB t0 = true) : ShowC 30 (.mk 1 t0 [] []) (showB (.mk 1 t0 [] [])) := by
  intro w ok k t A n c B m d hp
  obtain ⟨A1, c1, B1, d1, e, hc1, hd1, hd2, hts, hks⟩ := path_cells hp
  obtain ⟨wb, hwb, HB, HN⟩ := boxP w k t A n c B m d
  have HHW : Aside0 (w.alloc (.cells #[.int .i64 k, .string t, .slice A n c, .slice B m d] 25) = wb) := ⟨hwb.symm⟩
  simp only [List.cons.injEq, Value.int.injEq, Value.string.injEq, Value.slice.injEq, true_and, and_true, List.length_nil, List.length_cons, Nat.zero_add, Nat.reduceAdd] at e hc1 hd1 hd2
  obtain ⟨rfl, rfl, ⟨rfl, rfl, rfl⟩, rfl, rfl, rfl⟩ := e
  have hz := iri_size ht0
  have HW : Aside0 (showB (.mk 1 t [] []) = (⟨#[60]⟩ : ByteArray) ++ t ++ (⟨#[62]⟩ : ByteArray)) := ⟨by
    apply ByteArray.ext
    rw [ByteArray.data_append, ByteArray.data_append]
    apply Array.ext'
    simp [showB, showP, glueL]⟩
  clear hwb hp hts hks ht0
  go_enter Tryd.func30, Tryd.ntmps30
  go_upto_region 1 with (fail)
  rw [HHW.out]
  have q0 := blk_cell HN.out 0; have q1 := blk_cell HN.out 1; have q2 := blk_cell HN.out 2; have q3 := blk_cell HN.out 3; simp at q0 q1 q2 q3
  go_wp2_with fail
  go_ret
  exact ⟨ret_str HW.out.symm, HB.out⟩
set_option maxRecDepth 100000 in
set_option maxHeartbeats 8000000 in
theorem show_back (q : Pth) (hl : (showP q).length ≤ 1000000) (hS : ShowC 61 q (withinB q)) : ShowC 30 (.mk 2 ⟨#[]⟩ [] [q]) (showB (.mk 2 ⟨#[]⟩ [] [q])) := by
  intro w ok k t A n c B m d hp
  obtain ⟨A1, c1, B1, d1, e, hc1, hd1, hd2, hts, hks⟩ := path_cells hp
  obtain ⟨wb, hwb, HB, HN⟩ := boxP w k t A n c B m d
  have HHW : Aside0 (w.alloc (.cells #[.int .i64 k, .string t, .slice A n c, .slice B m d] 25) = wb) := ⟨hwb.symm⟩
  simp only [List.cons.injEq, Value.int.injEq, Value.string.injEq, Value.slice.injEq, true_and, and_true, List.length_nil, List.length_cons, Nat.zero_add, Nat.reduceAdd] at e hc1 hd1 hd2
  obtain ⟨rfl, rfl, ⟨rfl, rfl, rfl⟩, rfl, rfl, rfl⟩ := e
  obtain ⟨x, hx⟩ : ∃ x, withinB q = x := ⟨_, rfl⟩
  have hxs : x.size ≤ 2000000 := by rw [← hx]; unfold withinB; rw [ba_size]; have := inB_len q (showP q); omega
  have HW : Aside0 (showB (.mk 2 ⟨#[]⟩ [] [q]) = (⟨#[94]⟩ : ByteArray) ++ x) := ⟨by
    rw [← hx]
    apply ByteArray.ext
    rw [ByteArray.data_append]
    apply Array.ext'
    simp [showB, showP, showsL, glueL, withinB]⟩
  have hks2 : KidsAt wb ok B 0 [q] := KidsAt.move (fun g _ hg => HB.out.block g hg) _ hks
  obtain ⟨kb0, ko0, cs0, hB0, -, hc0, hq0⟩ := KidsAt.get _ hks2 0 q rfl
  obtain ⟨k0', t0', ts0', ks0'⟩ := q
  obtain ⟨A0', cc0', B0', d0', rfl, -⟩ := path_cells hq0
  have a00 := hc0 0 _ rfl
  have a01 := hc0 1 _ rfl
  have a02 := hc0 2 _ rfl
  have a03 := hc0 3 _ rfl
  simp at a00 a01 a02 a03
  subst hB0
  have CS : Aside0 (∀ W, Below wb.heap.size wb W → Calls Tryd.prog 61 #[.agg #[.int .i64 k0', .string t0', .slice A0' ts0'.length cc0', .slice B0' ks0'.length d0']] W fun e w' => e = .returned (.string x) ∧ Below W.heap.size W w') := ⟨fun W hW => by
    have := hS W ok k0' t0' A0' ts0'.length cc0' B0' ks0'.length d0' (hq0.below hW)
    rwa [hx] at this⟩
  clear hwb hp hts hks hx hS hc0 hq0 hks2 hl
  go_enter Tryd.func30, Tryd.ntmps30
  go_upto_region 1 with (fail)
  rw [HHW.out]
  have q0 := blk_cell HN.out 0; have q1 := blk_cell HN.out 1; have q2 := blk_cell HN.out 2; have q3 := blk_cell HN.out 3; simp at q0 q1 q2 q3
  go_wp2_with (go_at_call 61; (with_reducible refine (CS.out _ (Below.refl _ _)).mono ?_); rintro e w1 ⟨rfl, hb⟩; have HB1 := Aside0.mk (below_then HB.out HB.out.size hb); clear hb)
  go_ret
  exact ⟨ret_str HW.out.symm, HB1.out⟩
set_option maxRecDepth 100000 in
set_option maxHeartbeats 8000000 in
theorem sign_star (w : World) : Calls Tryd.prog 62 #[.int .i64 5] w fun e w' => e = .returned (.string ⟨#[42]⟩) ∧ w' = w := by
  go_enter Tryd.func62, Tryd.ntmps62
  go_wp2_with fail
  go_ret
  exact ⟨rfl, rfl⟩
set_option maxRecDepth 100000 in
set_option maxHeartbeats 8000000 in
theorem show_star (q : Pth) (hl : (showP q).length ≤ 1000000) (hS : ShowC 61 q (withinB q)) : ShowC 30 (.mk 5 ⟨#[]⟩ [] [q]) (showB (.mk 5 ⟨#[]⟩ [] [q])) := by
  intro w ok k t A n c B m d hp
  obtain ⟨A1, c1, B1, d1, e, hc1, hd1, hd2, hts, hks⟩ := path_cells hp
  obtain ⟨wb, hwb, HB, HN⟩ := boxP w k t A n c B m d
  have HHW : Aside0 (w.alloc (.cells #[.int .i64 k, .string t, .slice A n c, .slice B m d] 25) = wb) := ⟨hwb.symm⟩
  simp only [List.cons.injEq, Value.int.injEq, Value.string.injEq, Value.slice.injEq, true_and, and_true, List.length_nil, List.length_cons, Nat.zero_add, Nat.reduceAdd] at e hc1 hd1 hd2
  obtain ⟨rfl, rfl, ⟨rfl, rfl, rfl⟩, rfl, rfl, rfl⟩ := e
  obtain ⟨x, hx⟩ : ∃ x, withinB q = x := ⟨_, rfl⟩
  have hxs : x.size ≤ 2000000 := by rw [← hx]; unfold withinB; rw [ba_size]; have := inB_len q (showP q); omega
  have HW : Aside0 (showB (.mk 5 ⟨#[]⟩ [] [q]) = x ++ (⟨#[42]⟩ : ByteArray)) := ⟨by
    rw [← hx]
    apply ByteArray.ext
    rw [ByteArray.data_append]
    apply Array.ext'
    simp [showB, showP, showsL, glueL, withinB]⟩
  have hks2 : KidsAt wb ok B 0 [q] := KidsAt.move (fun g _ hg => HB.out.block g hg) _ hks
  obtain ⟨kb0, ko0, cs0, hB0, -, hc0, hq0⟩ := KidsAt.get _ hks2 0 q rfl
  obtain ⟨k0', t0', ts0', ks0'⟩ := q
  obtain ⟨A0', cc0', B0', d0', rfl, -⟩ := path_cells hq0
  have a00 := hc0 0 _ rfl
  have a01 := hc0 1 _ rfl
  have a02 := hc0 2 _ rfl
  have a03 := hc0 3 _ rfl
  simp at a00 a01 a02 a03
  subst hB0
  have CS : Aside0 (∀ W, Below wb.heap.size wb W → Calls Tryd.prog 61 #[.agg #[.int .i64 k0', .string t0', .slice A0' ts0'.length cc0', .slice B0' ks0'.length d0']] W fun e w' => e = .returned (.string x) ∧ Below W.heap.size W w') := ⟨fun W hW => by
    have := hS W ok k0' t0' A0' ts0'.length cc0' B0' ks0'.length d0' (hq0.below hW)
    rwa [hx] at this⟩
  have CG := Aside0.mk sign_star
  have q0 := blk_cell HN.out 0
  have q3 := blk_cell HN.out 3
  simp at q0 q3
  have HS : Aside0 (∀ W, Below wb.heap.size wb W → (fun W : World => (W.cell? ⟨w.heap.size, 0, none⟩ = some (.int .i64 5) ∧ W.cell? ⟨w.heap.size, 3, none⟩ = some (.slice (some ⟨kb0, ko0, none⟩) 1 d)) ∧ (W.cell? ⟨kb0, ko0, none⟩ = some (.int .i64 k0') ∧ W.cell? ⟨kb0, ko0 + 1, none⟩ = some (.string t0') ∧ W.cell? ⟨kb0, ko0 + 2, none⟩ = some (.slice A0' ts0'.length cc0') ∧ W.cell? ⟨kb0, ko0 + 3, none⟩ = some (.slice B0' ks0'.length d0'))) W) := ⟨fun W h => ⟨⟨pw_cell_below h q0, pw_cell_below h q3⟩, ⟨pw_cell_below h a00, pw_cell_below h a01, pw_cell_below h a02, pw_cell_below h a03⟩⟩⟩
  clear hwb hp hts hks hx hS hc0 hq0 hks2 hl a00 a01 a02 a03 q0 q3
  have hn1 : ¬ 9223372036854775807 < x.size + 1 := by omega
  go_enter Tryd.func30, Tryd.ntmps30
  go_upto_region 1 with (fail)
  rw [HHW.out]
  have q0 := blk_cell HN.out 0; have q1 := blk_cell HN.out 1; have q2 := blk_cell HN.out 2; have q3 := blk_cell HN.out 3; simp at q0 q1 q2 q3
  go_upto_region 19 with (fail)
  clear q0 q1 q2 q3
  have hS : (fun W : World => (W.cell? ⟨w.heap.size, 0, none⟩ = some (.int .i64 5) ∧ W.cell? ⟨w.heap.size, 3, none⟩ = some (.slice (some ⟨kb0, ko0, none⟩) 1 d)) ∧ (W.cell? ⟨kb0, ko0, none⟩ = some (.int .i64 k0') ∧ W.cell? ⟨kb0, ko0 + 1, none⟩ = some (.string t0') ∧ W.cell? ⟨kb0, ko0 + 2, none⟩ = some (.slice A0' ts0'.length cc0') ∧ W.cell? ⟨kb0, ko0 + 3, none⟩ = some (.slice B0' ks0'.length d0'))) wb.drew := HS.out _ (below_drew (Below.refl _ _))
  refine wp_region_held (S := (fun W : World => (W.cell? ⟨w.heap.size, 0, none⟩ = some (.int .i64 5) ∧ W.cell? ⟨w.heap.size, 3, none⟩ = some (.slice (some ⟨kb0, ko0, none⟩) 1 d)) ∧ (W.cell? ⟨kb0, ko0, none⟩ = some (.int .i64 k0') ∧ W.cell? ⟨kb0, ko0 + 1, none⟩ = some (.string t0') ∧ W.cell? ⟨kb0, ko0 + 2, none⟩ = some (.slice A0' ts0'.length cc0') ∧ W.cell? ⟨kb0, ko0 + 3, none⟩ = some (.slice B0' ks0'.length d0')))) (by kernel_rfl) ?_
  change wpAnyH _ _ _ _ _ _ _ _ wb.drew
  first | refine tkU 0 hS ?_ | (refine tkV 0 (v := ?_) hS ?_ ?_; rotate_left 1; · (intro w0 hSw; (try dsimp only at hSw); go_split_ands; go_simp; try with_reducible rfl)) | fail
  try simp only [Act.put, pL]
  first | refine tkU 1 hS ?_ | (refine tkV 1 (v := ?_) hS ?_ ?_; rotate_left 1; · (intro w0 hSw; (try dsimp only at hSw); go_split_ands; go_simp; try with_reducible rfl)) | fail
  try simp only [Act.put, pL]
  first | refine tkU 2 hS ?_ | (refine tkV 2 (v := ?_) hS ?_ ?_; rotate_left 1; · (intro w0 hSw; (try dsimp only at hSw); go_split_ands; go_simp; try with_reducible rfl)) | fail
  try simp only [Act.put, pL]
  first | refine tkU 3 hS ?_ | (refine tkV 3 (v := ?_) hS ?_ ?_; rotate_left 1; · (intro w0 hSw; (try dsimp only at hSw); go_split_ands; go_simp; try with_reducible rfl)) | fail
  try simp only [Act.put, pL]
  first | refine tkU 5 hS ?_ | (refine tkV 5 (v := ?_) hS ?_ ?_; rotate_left 1; · (intro w0 hSw; (try dsimp only at hSw); go_split_ands; go_simp; try with_reducible rfl)) | fail
  try simp only [Act.put, pL]
  first | refine tkU 6 hS ?_ | (refine tkV 6 (v := ?_) hS ?_ ?_; rotate_left 1; · (intro w0 hSw; (try dsimp only at hSw); go_split_ands; go_simp; try with_reducible rfl)) | fail
  try simp only [Act.put, pL]
  refine wpAnyH_ready (rs := [4]) (by kernel_rfl) (by simp) ?_
  refine AllReadyH.cons rfl (fun K hK => ?_) AllReadyH.nil
  go_simp
  refine (CS.out _ (below_drew (Below.refl _ _))).mono ?_
  rintro e w1 ⟨rfl, hb⟩
  have HB1 := Aside0.mk (below_then (below_drew (Below.refl wb.heap.size wb)) (Nat.le_refl _) hb)
  clear hb hS
  have hS : (fun W : World => (W.cell? ⟨w.heap.size, 0, none⟩ = some (.int .i64 5) ∧ W.cell? ⟨w.heap.size, 3, none⟩ = some (.slice (some ⟨kb0, ko0, none⟩) 1 d)) ∧ (W.cell? ⟨kb0, ko0, none⟩ = some (.int .i64 k0') ∧ W.cell? ⟨kb0, ko0 + 1, none⟩ = some (.string t0') ∧ W.cell? ⟨kb0, ko0 + 2, none⟩ = some (.slice A0' ts0'.length cc0') ∧ W.cell? ⟨kb0, ko0 + 3, none⟩ = some (.slice B0' ks0'.length d0'))) w1 := HS.out _ HB1.out
  refine hK.out _ _ hS (fun _ => ?_)
  clear hK K
  try simp only [Act.put, pL]
  refine wpAnyH_ready (rs := [7]) (by kernel_rfl) (by simp) ?_
  refine AllReadyH.cons rfl (fun K hK => ?_) AllReadyH.nil
  go_simp
  refine (CG.out _).mono ?_
  rintro e w2 ⟨rfl, rfl⟩
  refine hK.out _ _ hS (fun _ => ?_)
  clear hK K
  try simp only [Act.put, pL]
  first | refine tkU 8 hS ?_ | (refine tkV 8 (v := ?_) hS ?_ ?_; rotate_left 1; · (intro w0 hSw; (try dsimp only at hSw); go_split_ands; go_simp; try with_reducible rfl)) | fail
  try simp only [Act.put, pL]
  first | refine tkU 9 hS ?_ | (refine tkV 9 (v := ?_) hS ?_ ?_; rotate_left 1; · (intro w0 hSw; (try dsimp only at hSw); go_split_ands; go_simp; try with_reducible rfl)) | fail
  try simp only [Act.put, pL]
  refine wpAnyH_done (by kernel_rfl) ?_ _
  go_wp2_with fail
  go_ret
  exact ⟨ret_str HW.out.symm, HB.out.trans (HB1.out.mono HB.out.size)⟩
set_option maxRecDepth 100000 in
set_option maxHeartbeats 8000000 in
theorem sign_plus (w : World) : Calls Tryd.prog 62 #[.int .i64 6] w fun e w' => e = .returned (.string ⟨#[43]⟩) ∧ w' = w := by
  go_enter Tryd.func62, Tryd.ntmps62
  go_wp2_with fail
  go_ret
  exact ⟨rfl, rfl⟩
set_option maxRecDepth 100000 in
set_option maxHeartbeats 8000000 in
theorem show_plus (q : Pth) (hl : (showP q).length ≤ 1000000) (hS : ShowC 61 q (withinB q)) : ShowC 30 (.mk 6 ⟨#[]⟩ [] [q]) (showB (.mk 6 ⟨#[]⟩ [] [q])) := by
  intro w ok k t A n c B m d hp
  obtain ⟨A1, c1, B1, d1, e, hc1, hd1, hd2, hts, hks⟩ := path_cells hp
  obtain ⟨wb, hwb, HB, HN⟩ := boxP w k t A n c B m d
  have HHW : Aside0 (w.alloc (.cells #[.int .i64 k, .string t, .slice A n c, .slice B m d] 25) = wb) := ⟨hwb.symm⟩
  simp only [List.cons.injEq, Value.int.injEq, Value.string.injEq, Value.slice.injEq, true_and, and_true, List.length_nil, List.length_cons, Nat.zero_add, Nat.reduceAdd] at e hc1 hd1 hd2
  obtain ⟨rfl, rfl, ⟨rfl, rfl, rfl⟩, rfl, rfl, rfl⟩ := e
  obtain ⟨x, hx⟩ : ∃ x, withinB q = x := ⟨_, rfl⟩
  have hxs : x.size ≤ 2000000 := by rw [← hx]; unfold withinB; rw [ba_size]; have := inB_len q (showP q); omega
  have HW : Aside0 (showB (.mk 6 ⟨#[]⟩ [] [q]) = x ++ (⟨#[43]⟩ : ByteArray)) := ⟨by
    rw [← hx]
    apply ByteArray.ext
    rw [ByteArray.data_append]
    apply Array.ext'
    simp [showB, showP, showsL, glueL, withinB]⟩
  have hks2 : KidsAt wb ok B 0 [q] := KidsAt.move (fun g _ hg => HB.out.block g hg) _ hks
  obtain ⟨kb0, ko0, cs0, hB0, -, hc0, hq0⟩ := KidsAt.get _ hks2 0 q rfl
  obtain ⟨k0', t0', ts0', ks0'⟩ := q
  obtain ⟨A0', cc0', B0', d0', rfl, -⟩ := path_cells hq0
  have a00 := hc0 0 _ rfl
  have a01 := hc0 1 _ rfl
  have a02 := hc0 2 _ rfl
  have a03 := hc0 3 _ rfl
  simp at a00 a01 a02 a03
  subst hB0
  have CS : Aside0 (∀ W, Below wb.heap.size wb W → Calls Tryd.prog 61 #[.agg #[.int .i64 k0', .string t0', .slice A0' ts0'.length cc0', .slice B0' ks0'.length d0']] W fun e w' => e = .returned (.string x) ∧ Below W.heap.size W w') := ⟨fun W hW => by
    have := hS W ok k0' t0' A0' ts0'.length cc0' B0' ks0'.length d0' (hq0.below hW)
    rwa [hx] at this⟩
  have CG := Aside0.mk sign_plus
  have q0 := blk_cell HN.out 0
  have q3 := blk_cell HN.out 3
  simp at q0 q3
  have HS : Aside0 (∀ W, Below wb.heap.size wb W → (fun W : World => (W.cell? ⟨w.heap.size, 0, none⟩ = some (.int .i64 6) ∧ W.cell? ⟨w.heap.size, 3, none⟩ = some (.slice (some ⟨kb0, ko0, none⟩) 1 d)) ∧ (W.cell? ⟨kb0, ko0, none⟩ = some (.int .i64 k0') ∧ W.cell? ⟨kb0, ko0 + 1, none⟩ = some (.string t0') ∧ W.cell? ⟨kb0, ko0 + 2, none⟩ = some (.slice A0' ts0'.length cc0') ∧ W.cell? ⟨kb0, ko0 + 3, none⟩ = some (.slice B0' ks0'.length d0'))) W) := ⟨fun W h => ⟨⟨pw_cell_below h q0, pw_cell_below h q3⟩, ⟨pw_cell_below h a00, pw_cell_below h a01, pw_cell_below h a02, pw_cell_below h a03⟩⟩⟩
  clear hwb hp hts hks hx hS hc0 hq0 hks2 hl a00 a01 a02 a03 q0 q3
  have hn1 : ¬ 9223372036854775807 < x.size + 1 := by omega
  go_enter Tryd.func30, Tryd.ntmps30
  go_upto_region 1 with (fail)
  rw [HHW.out]
  have q0 := blk_cell HN.out 0; have q1 := blk_cell HN.out 1; have q2 := blk_cell HN.out 2; have q3 := blk_cell HN.out 3; simp at q0 q1 q2 q3
  go_upto_region 19 with (fail)
  clear q0 q1 q2 q3
  have hS : (fun W : World => (W.cell? ⟨w.heap.size, 0, none⟩ = some (.int .i64 6) ∧ W.cell? ⟨w.heap.size, 3, none⟩ = some (.slice (some ⟨kb0, ko0, none⟩) 1 d)) ∧ (W.cell? ⟨kb0, ko0, none⟩ = some (.int .i64 k0') ∧ W.cell? ⟨kb0, ko0 + 1, none⟩ = some (.string t0') ∧ W.cell? ⟨kb0, ko0 + 2, none⟩ = some (.slice A0' ts0'.length cc0') ∧ W.cell? ⟨kb0, ko0 + 3, none⟩ = some (.slice B0' ks0'.length d0'))) wb.drew := HS.out _ (below_drew (Below.refl _ _))
  refine wp_region_held (S := (fun W : World => (W.cell? ⟨w.heap.size, 0, none⟩ = some (.int .i64 6) ∧ W.cell? ⟨w.heap.size, 3, none⟩ = some (.slice (some ⟨kb0, ko0, none⟩) 1 d)) ∧ (W.cell? ⟨kb0, ko0, none⟩ = some (.int .i64 k0') ∧ W.cell? ⟨kb0, ko0 + 1, none⟩ = some (.string t0') ∧ W.cell? ⟨kb0, ko0 + 2, none⟩ = some (.slice A0' ts0'.length cc0') ∧ W.cell? ⟨kb0, ko0 + 3, none⟩ = some (.slice B0' ks0'.length d0')))) (by kernel_rfl) ?_
  change wpAnyH _ _ _ _ _ _ _ _ wb.drew
  first | refine tkU 0 hS ?_ | (refine tkV 0 (v := ?_) hS ?_ ?_; rotate_left 1; · (intro w0 hSw; (try dsimp only at hSw); go_split_ands; go_simp; try with_reducible rfl)) | fail
  try simp only [Act.put, pL]
  first | refine tkU 1 hS ?_ | (refine tkV 1 (v := ?_) hS ?_ ?_; rotate_left 1; · (intro w0 hSw; (try dsimp only at hSw); go_split_ands; go_simp; try with_reducible rfl)) | fail
  try simp only [Act.put, pL]
  first | refine tkU 2 hS ?_ | (refine tkV 2 (v := ?_) hS ?_ ?_; rotate_left 1; · (intro w0 hSw; (try dsimp only at hSw); go_split_ands; go_simp; try with_reducible rfl)) | fail
  try simp only [Act.put, pL]
  first | refine tkU 3 hS ?_ | (refine tkV 3 (v := ?_) hS ?_ ?_; rotate_left 1; · (intro w0 hSw; (try dsimp only at hSw); go_split_ands; go_simp; try with_reducible rfl)) | fail
  try simp only [Act.put, pL]
  first | refine tkU 5 hS ?_ | (refine tkV 5 (v := ?_) hS ?_ ?_; rotate_left 1; · (intro w0 hSw; (try dsimp only at hSw); go_split_ands; go_simp; try with_reducible rfl)) | fail
  try simp only [Act.put, pL]
  first | refine tkU 6 hS ?_ | (refine tkV 6 (v := ?_) hS ?_ ?_; rotate_left 1; · (intro w0 hSw; (try dsimp only at hSw); go_split_ands; go_simp; try with_reducible rfl)) | fail
  try simp only [Act.put, pL]
  refine wpAnyH_ready (rs := [4]) (by kernel_rfl) (by simp) ?_
  refine AllReadyH.cons rfl (fun K hK => ?_) AllReadyH.nil
  go_simp
  refine (CS.out _ (below_drew (Below.refl _ _))).mono ?_
  rintro e w1 ⟨rfl, hb⟩
  have HB1 := Aside0.mk (below_then (below_drew (Below.refl wb.heap.size wb)) (Nat.le_refl _) hb)
  clear hb hS
  have hS : (fun W : World => (W.cell? ⟨w.heap.size, 0, none⟩ = some (.int .i64 6) ∧ W.cell? ⟨w.heap.size, 3, none⟩ = some (.slice (some ⟨kb0, ko0, none⟩) 1 d)) ∧ (W.cell? ⟨kb0, ko0, none⟩ = some (.int .i64 k0') ∧ W.cell? ⟨kb0, ko0 + 1, none⟩ = some (.string t0') ∧ W.cell? ⟨kb0, ko0 + 2, none⟩ = some (.slice A0' ts0'.length cc0') ∧ W.cell? ⟨kb0, ko0 + 3, none⟩ = some (.slice B0' ks0'.length d0'))) w1 := HS.out _ HB1.out
  refine hK.out _ _ hS (fun _ => ?_)
  clear hK K
  try simp only [Act.put, pL]
  refine wpAnyH_ready (rs := [7]) (by kernel_rfl) (by simp) ?_
  refine AllReadyH.cons rfl (fun K hK => ?_) AllReadyH.nil
  go_simp
  refine (CG.out _).mono ?_
  rintro e w2 ⟨rfl, rfl⟩
  refine hK.out _ _ hS (fun _ => ?_)
  clear hK K
  try simp only [Act.put, pL]
  first | refine tkU 8 hS ?_ | (refine tkV 8 (v := ?_) hS ?_ ?_; rotate_left 1; · (intro w0 hSw; (try dsimp only at hSw); go_split_ands; go_simp; try with_reducible rfl)) | fail
  try simp only [Act.put, pL]
  first | refine tkU 9 hS ?_ | (refine tkV 9 (v := ?_) hS ?_ ?_; rotate_left 1; · (intro w0 hSw; (try dsimp only at hSw); go_split_ands; go_simp; try with_reducible rfl)) | fail
  try simp only [Act.put, pL]
  refine wpAnyH_done (by kernel_rfl) ?_ _
  go_wp2_with fail
  go_ret
  exact ⟨ret_str HW.out.symm, HB.out.trans (HB1.out.mono HB.out.size)⟩
set_option maxRecDepth 100000 in
set_option maxHeartbeats 8000000 in
theorem sign_maybe (w : World) : Calls Tryd.prog 62 #[.int .i64 7] w fun e w' => e = .returned (.string ⟨#[63]⟩) ∧ w' = w := by
  go_enter Tryd.func62, Tryd.ntmps62
  go_wp2_with fail
  go_ret
  exact ⟨rfl, rfl⟩
set_option maxRecDepth 100000 in
set_option maxHeartbeats 8000000 in
theorem show_maybe (q : Pth) (hl : (showP q).length ≤ 1000000) (hS : ShowC 61 q (withinB q)) : ShowC 30 (.mk 7 ⟨#[]⟩ [] [q]) (showB (.mk 7 ⟨#[]⟩ [] [q])) := by
  intro w ok k t A n c B m d hp
  obtain ⟨A1, c1, B1, d1, e, hc1, hd1, hd2, hts, hks⟩ := path_cells hp
  obtain ⟨wb, hwb, HB, HN⟩ := boxP w k t A n c B m d
  have HHW : Aside0 (w.alloc (.cells #[.int .i64 k, .string t, .slice A n c, .slice B m d] 25) = wb) := ⟨hwb.symm⟩
  simp only [List.cons.injEq, Value.int.injEq, Value.string.injEq, Value.slice.injEq, true_and, and_true, List.length_nil, List.length_cons, Nat.zero_add, Nat.reduceAdd] at e hc1 hd1 hd2
  obtain ⟨rfl, rfl, ⟨rfl, rfl, rfl⟩, rfl, rfl, rfl⟩ := e
  obtain ⟨x, hx⟩ : ∃ x, withinB q = x := ⟨_, rfl⟩
  have hxs : x.size ≤ 2000000 := by rw [← hx]; unfold withinB; rw [ba_size]; have := inB_len q (showP q); omega
  have HW : Aside0 (showB (.mk 7 ⟨#[]⟩ [] [q]) = x ++ (⟨#[63]⟩ : ByteArray)) := ⟨by
    rw [← hx]
    apply ByteArray.ext
    rw [ByteArray.data_append]
    apply Array.ext'
    simp [showB, showP, showsL, glueL, withinB]⟩
  have hks2 : KidsAt wb ok B 0 [q] := KidsAt.move (fun g _ hg => HB.out.block g hg) _ hks
  obtain ⟨kb0, ko0, cs0, hB0, -, hc0, hq0⟩ := KidsAt.get _ hks2 0 q rfl
  obtain ⟨k0', t0', ts0', ks0'⟩ := q
  obtain ⟨A0', cc0', B0', d0', rfl, -⟩ := path_cells hq0
  have a00 := hc0 0 _ rfl
  have a01 := hc0 1 _ rfl
  have a02 := hc0 2 _ rfl
  have a03 := hc0 3 _ rfl
  simp at a00 a01 a02 a03
  subst hB0
  have CS : Aside0 (∀ W, Below wb.heap.size wb W → Calls Tryd.prog 61 #[.agg #[.int .i64 k0', .string t0', .slice A0' ts0'.length cc0', .slice B0' ks0'.length d0']] W fun e w' => e = .returned (.string x) ∧ Below W.heap.size W w') := ⟨fun W hW => by
    have := hS W ok k0' t0' A0' ts0'.length cc0' B0' ks0'.length d0' (hq0.below hW)
    rwa [hx] at this⟩
  have CG := Aside0.mk sign_maybe
  have q0 := blk_cell HN.out 0
  have q3 := blk_cell HN.out 3
  simp at q0 q3
  have HS : Aside0 (∀ W, Below wb.heap.size wb W → (fun W : World => (W.cell? ⟨w.heap.size, 0, none⟩ = some (.int .i64 7) ∧ W.cell? ⟨w.heap.size, 3, none⟩ = some (.slice (some ⟨kb0, ko0, none⟩) 1 d)) ∧ (W.cell? ⟨kb0, ko0, none⟩ = some (.int .i64 k0') ∧ W.cell? ⟨kb0, ko0 + 1, none⟩ = some (.string t0') ∧ W.cell? ⟨kb0, ko0 + 2, none⟩ = some (.slice A0' ts0'.length cc0') ∧ W.cell? ⟨kb0, ko0 + 3, none⟩ = some (.slice B0' ks0'.length d0'))) W) := ⟨fun W h => ⟨⟨pw_cell_below h q0, pw_cell_below h q3⟩, ⟨pw_cell_below h a00, pw_cell_below h a01, pw_cell_below h a02, pw_cell_below h a03⟩⟩⟩
  clear hwb hp hts hks hx hS hc0 hq0 hks2 hl a00 a01 a02 a03 q0 q3
  have hn1 : ¬ 9223372036854775807 < x.size + 1 := by omega
  go_enter Tryd.func30, Tryd.ntmps30
  go_upto_region 1 with (fail)
  rw [HHW.out]
  have q0 := blk_cell HN.out 0; have q1 := blk_cell HN.out 1; have q2 := blk_cell HN.out 2; have q3 := blk_cell HN.out 3; simp at q0 q1 q2 q3
  go_upto_region 19 with (fail)
  clear q0 q1 q2 q3
  have hS : (fun W : World => (W.cell? ⟨w.heap.size, 0, none⟩ = some (.int .i64 7) ∧ W.cell? ⟨w.heap.size, 3, none⟩ = some (.slice (some ⟨kb0, ko0, none⟩) 1 d)) ∧ (W.cell? ⟨kb0, ko0, none⟩ = some (.int .i64 k0') ∧ W.cell? ⟨kb0, ko0 + 1, none⟩ = some (.string t0') ∧ W.cell? ⟨kb0, ko0 + 2, none⟩ = some (.slice A0' ts0'.length cc0') ∧ W.cell? ⟨kb0, ko0 + 3, none⟩ = some (.slice B0' ks0'.length d0'))) wb.drew := HS.out _ (below_drew (Below.refl _ _))
  refine wp_region_held (S := (fun W : World => (W.cell? ⟨w.heap.size, 0, none⟩ = some (.int .i64 7) ∧ W.cell? ⟨w.heap.size, 3, none⟩ = some (.slice (some ⟨kb0, ko0, none⟩) 1 d)) ∧ (W.cell? ⟨kb0, ko0, none⟩ = some (.int .i64 k0') ∧ W.cell? ⟨kb0, ko0 + 1, none⟩ = some (.string t0') ∧ W.cell? ⟨kb0, ko0 + 2, none⟩ = some (.slice A0' ts0'.length cc0') ∧ W.cell? ⟨kb0, ko0 + 3, none⟩ = some (.slice B0' ks0'.length d0')))) (by kernel_rfl) ?_
  change wpAnyH _ _ _ _ _ _ _ _ wb.drew
  first | refine tkU 0 hS ?_ | (refine tkV 0 (v := ?_) hS ?_ ?_; rotate_left 1; · (intro w0 hSw; (try dsimp only at hSw); go_split_ands; go_simp; try with_reducible rfl)) | fail
  try simp only [Act.put, pL]
  first | refine tkU 1 hS ?_ | (refine tkV 1 (v := ?_) hS ?_ ?_; rotate_left 1; · (intro w0 hSw; (try dsimp only at hSw); go_split_ands; go_simp; try with_reducible rfl)) | fail
  try simp only [Act.put, pL]
  first | refine tkU 2 hS ?_ | (refine tkV 2 (v := ?_) hS ?_ ?_; rotate_left 1; · (intro w0 hSw; (try dsimp only at hSw); go_split_ands; go_simp; try with_reducible rfl)) | fail
  try simp only [Act.put, pL]
  first | refine tkU 3 hS ?_ | (refine tkV 3 (v := ?_) hS ?_ ?_; rotate_left 1; · (intro w0 hSw; (try dsimp only at hSw); go_split_ands; go_simp; try with_reducible rfl)) | fail
  try simp only [Act.put, pL]
  first | refine tkU 5 hS ?_ | (refine tkV 5 (v := ?_) hS ?_ ?_; rotate_left 1; · (intro w0 hSw; (try dsimp only at hSw); go_split_ands; go_simp; try with_reducible rfl)) | fail
  try simp only [Act.put, pL]
  first | refine tkU 6 hS ?_ | (refine tkV 6 (v := ?_) hS ?_ ?_; rotate_left 1; · (intro w0 hSw; (try dsimp only at hSw); go_split_ands; go_simp; try with_reducible rfl)) | fail
  try simp only [Act.put, pL]
  refine wpAnyH_ready (rs := [4]) (by kernel_rfl) (by simp) ?_
  refine AllReadyH.cons rfl (fun K hK => ?_) AllReadyH.nil
  go_simp
  refine (CS.out _ (below_drew (Below.refl _ _))).mono ?_
  rintro e w1 ⟨rfl, hb⟩
  have HB1 := Aside0.mk (below_then (below_drew (Below.refl wb.heap.size wb)) (Nat.le_refl _) hb)
  clear hb hS
  have hS : (fun W : World => (W.cell? ⟨w.heap.size, 0, none⟩ = some (.int .i64 7) ∧ W.cell? ⟨w.heap.size, 3, none⟩ = some (.slice (some ⟨kb0, ko0, none⟩) 1 d)) ∧ (W.cell? ⟨kb0, ko0, none⟩ = some (.int .i64 k0') ∧ W.cell? ⟨kb0, ko0 + 1, none⟩ = some (.string t0') ∧ W.cell? ⟨kb0, ko0 + 2, none⟩ = some (.slice A0' ts0'.length cc0') ∧ W.cell? ⟨kb0, ko0 + 3, none⟩ = some (.slice B0' ks0'.length d0'))) w1 := HS.out _ HB1.out
  refine hK.out _ _ hS (fun _ => ?_)
  clear hK K
  try simp only [Act.put, pL]
  refine wpAnyH_ready (rs := [7]) (by kernel_rfl) (by simp) ?_
  refine AllReadyH.cons rfl (fun K hK => ?_) AllReadyH.nil
  go_simp
  refine (CG.out _).mono ?_
  rintro e w2 ⟨rfl, rfl⟩
  refine hK.out _ _ hS (fun _ => ?_)
  clear hK K
  try simp only [Act.put, pL]
  first | refine tkU 8 hS ?_ | (refine tkV 8 (v := ?_) hS ?_ ?_; rotate_left 1; · (intro w0 hSw; (try dsimp only at hSw); go_split_ands; go_simp; try with_reducible rfl)) | fail
  try simp only [Act.put, pL]
  first | refine tkU 9 hS ?_ | (refine tkV 9 (v := ?_) hS ?_ ?_; rotate_left 1; · (intro w0 hSw; (try dsimp only at hSw); go_split_ands; go_simp; try with_reducible rfl)) | fail
  try simp only [Act.put, pL]
  refine wpAnyH_done (by kernel_rfl) ?_ _
  go_wp2_with fail
  go_ret
  exact ⟨ret_str HW.out.symm, HB.out.trans (HB1.out.mono HB.out.size)⟩
set_option maxRecDepth 100000 in
set_option maxHeartbeats 8000000 in
theorem show_seq (q q2 : Pth) (hl : (showP q).length ≤ 1000000) (hl2 : (showP q2).length ≤ 1000000) (hS : ShowC 61 q (withinB q)) (hS2 : ShowC 61 q2 (withinB q2)) : ShowC 30 (.mk 3 ⟨#[]⟩ [] [q, q2]) (showB (.mk 3 ⟨#[]⟩ [] [q, q2])) := by
  intro w ok k t A n c B m d hp
  obtain ⟨A1, c1, B1, d1, e, hc1, hd1, hd2, hts, hks⟩ := path_cells hp
  obtain ⟨wb, hwb, HB, HN⟩ := boxP w k t A n c B m d
  have HHW : Aside0 (w.alloc (.cells #[.int .i64 k, .string t, .slice A n c, .slice B m d] 25) = wb) := ⟨hwb.symm⟩
  simp only [List.cons.injEq, Value.int.injEq, Value.string.injEq, Value.slice.injEq, true_and, and_true, List.length_nil, List.length_cons, Nat.zero_add, Nat.reduceAdd] at e hc1 hd1 hd2
  obtain ⟨rfl, rfl, ⟨rfl, rfl, rfl⟩, rfl, rfl, rfl⟩ := e
  obtain ⟨x, hx⟩ : ∃ x, withinB q = x := ⟨_, rfl⟩
  obtain ⟨y, hy⟩ : ∃ y, withinB q2 = y := ⟨_, rfl⟩
  have hxs : x.size ≤ 2000000 := by rw [← hx]; unfold withinB; rw [ba_size]; have := inB_len q (showP q); omega
  have hys : y.size ≤ 2000000 := by rw [← hy]; unfold withinB; rw [ba_size]; have := inB_len q2 (showP q2); omega
  have HW : Aside0 (showB (.mk 3 ⟨#[]⟩ [] [q, q2]) = x ++ (⟨#[47]⟩ : ByteArray) ++ y) := ⟨by
    rw [← hx, ← hy]
    apply ByteArray.ext
    rw [ByteArray.data_append, ByteArray.data_append]
    apply Array.ext'
    simp [showB, showP, showsL, glueL, withinB]⟩
  have hks2 : KidsAt wb ok B 0 [q, q2] := KidsAt.move (fun g _ hg => HB.out.block g hg) _ hks
  obtain ⟨kb0, ko0, cs0, hB0, -, hc0, hq0⟩ := KidsAt.get _ hks2 0 q rfl
  obtain ⟨k0', t0', ts0', ks0'⟩ := q
  obtain ⟨A0', cc0', B0', d0', rfl, -⟩ := path_cells hq0
  obtain ⟨kb1, ko1, cs1, hB1, -, hc1, hq1⟩ := KidsAt.get _ hks2 1 q2 rfl
  obtain ⟨k1', t1', ts1', ks1'⟩ := q2
  obtain ⟨A1', cc1', B1', d1', rfl, -⟩ := path_cells hq1
  have hBe : (⟨kb1, ko1, none⟩ : Addr) = ⟨kb0, ko0, none⟩ := Option.some.inj (hB1.symm.trans hB0)
  injection hBe with hb1 ho1
  subst hb1 ho1
  have a00 := hc0 0 _ rfl
  have a01 := hc0 1 _ rfl
  have a02 := hc0 2 _ rfl
  have a03 := hc0 3 _ rfl
  simp at a00 a01 a02 a03
  have a10 := hc1 0 _ rfl
  have a11 := hc1 1 _ rfl
  have a12 := hc1 2 _ rfl
  have a13 := hc1 3 _ rfl
  simp [Nat.add_assoc] at a10 a11 a12 a13
  subst hB0
  have CS : Aside0 (∀ W, Below wb.heap.size wb W → Calls Tryd.prog 61 #[.agg #[.int .i64 k0', .string t0', .slice A0' ts0'.length cc0', .slice B0' ks0'.length d0']] W fun e w' => e = .returned (.string x) ∧ Below W.heap.size W w') := ⟨fun W hW => by
    have := hS W ok k0' t0' A0' ts0'.length cc0' B0' ks0'.length d0' (hq0.below hW)
    rwa [hx] at this⟩
  have CS2 : Aside0 (∀ W, Below wb.heap.size wb W → Calls Tryd.prog 61 #[.agg #[.int .i64 k1', .string t1', .slice A1' ts1'.length cc1', .slice B1' ks1'.length d1']] W fun e w' => e = .returned (.string y) ∧ Below W.heap.size W w') := ⟨fun W hW => by
    have := hS2 W ok k1' t1' A1' ts1'.length cc1' B1' ks1'.length d1' (hq1.below hW)
    rwa [hy] at this⟩
  have q3 := blk_cell HN.out 3
  simp at q3
  have HS : Aside0 (∀ W, Below wb.heap.size wb W → (fun W : World => (W.cell? ⟨w.heap.size, 3, none⟩ = some (.slice (some ⟨kb1, ko1, none⟩) 2 d)) ∧ (W.cell? ⟨kb1, ko1, none⟩ = some (.int .i64 k0') ∧ W.cell? ⟨kb1, ko1 + 1, none⟩ = some (.string t0') ∧ W.cell? ⟨kb1, ko1 + 2, none⟩ = some (.slice A0' ts0'.length cc0') ∧ W.cell? ⟨kb1, ko1 + 3, none⟩ = some (.slice B0' ks0'.length d0')) ∧ (W.cell? ⟨kb1, ko1 + 4, none⟩ = some (.int .i64 k1') ∧ W.cell? ⟨kb1, ko1 + 5, none⟩ = some (.string t1') ∧ W.cell? ⟨kb1, ko1 + 6, none⟩ = some (.slice A1' ts1'.length cc1') ∧ W.cell? ⟨kb1, ko1 + 7, none⟩ = some (.slice B1' ks1'.length d1'))) W) := ⟨fun W h => ⟨pw_cell_below h q3, ⟨pw_cell_below h a00, pw_cell_below h a01, pw_cell_below h a02, pw_cell_below h a03⟩, ⟨pw_cell_below h a10, pw_cell_below h a11, pw_cell_below h a12, pw_cell_below h a13⟩⟩⟩
  clear hwb hp hts hks hx hy hS hS2 hc0 hq0 hc1 hq1 hks2 hl hl2 a00 a01 a02 a03 a10 a11 a12 a13 q3
  have hn1 : ¬ 9223372036854775807 < x.size + 1 := by omega
  have hn2 : ¬ 9223372036854775807 < x.size + 1 + y.size := by omega
  clear hB1
  go_enter Tryd.func30, Tryd.ntmps30
  go_upto_region 1 with (fail)
  rw [HHW.out]
  have q0 := blk_cell HN.out 0; have q1 := blk_cell HN.out 1; have q2 := blk_cell HN.out 2; have q3 := blk_cell HN.out 3; simp at q0 q1 q2 q3
  go_upto_region 7 with (fail)
  clear q0 q1 q2 q3
  have hS : (fun W : World => (W.cell? ⟨w.heap.size, 3, none⟩ = some (.slice (some ⟨kb1, ko1, none⟩) 2 d)) ∧ (W.cell? ⟨kb1, ko1, none⟩ = some (.int .i64 k0') ∧ W.cell? ⟨kb1, ko1 + 1, none⟩ = some (.string t0') ∧ W.cell? ⟨kb1, ko1 + 2, none⟩ = some (.slice A0' ts0'.length cc0') ∧ W.cell? ⟨kb1, ko1 + 3, none⟩ = some (.slice B0' ks0'.length d0')) ∧ (W.cell? ⟨kb1, ko1 + 4, none⟩ = some (.int .i64 k1') ∧ W.cell? ⟨kb1, ko1 + 5, none⟩ = some (.string t1') ∧ W.cell? ⟨kb1, ko1 + 6, none⟩ = some (.slice A1' ts1'.length cc1') ∧ W.cell? ⟨kb1, ko1 + 7, none⟩ = some (.slice B1' ks1'.length d1'))) wb.drew := HS.out _ (below_drew (Below.refl _ _))
  refine wp_region_held (S := (fun W : World => (W.cell? ⟨w.heap.size, 3, none⟩ = some (.slice (some ⟨kb1, ko1, none⟩) 2 d)) ∧ (W.cell? ⟨kb1, ko1, none⟩ = some (.int .i64 k0') ∧ W.cell? ⟨kb1, ko1 + 1, none⟩ = some (.string t0') ∧ W.cell? ⟨kb1, ko1 + 2, none⟩ = some (.slice A0' ts0'.length cc0') ∧ W.cell? ⟨kb1, ko1 + 3, none⟩ = some (.slice B0' ks0'.length d0')) ∧ (W.cell? ⟨kb1, ko1 + 4, none⟩ = some (.int .i64 k1') ∧ W.cell? ⟨kb1, ko1 + 5, none⟩ = some (.string t1') ∧ W.cell? ⟨kb1, ko1 + 6, none⟩ = some (.slice A1' ts1'.length cc1') ∧ W.cell? ⟨kb1, ko1 + 7, none⟩ = some (.slice B1' ks1'.length d1')))) (by kernel_rfl) ?_
  change wpAnyH _ _ _ _ _ _ _ _ wb.drew
  first | refine tkU 0 hS ?_ | (refine tkV 0 (v := ?_) hS ?_ ?_; rotate_left 1; · (intro w0 hSw; (try dsimp only at hSw); go_split_ands; go_simp; try with_reducible rfl)) | fail
  try simp only [Act.put, pL]
  first | refine tkU 1 hS ?_ | (refine tkV 1 (v := ?_) hS ?_ ?_; rotate_left 1; · (intro w0 hSw; (try dsimp only at hSw); go_split_ands; go_simp; try with_reducible rfl)) | fail
  try simp only [Act.put, pL]
  first | refine tkU 2 hS ?_ | (refine tkV 2 (v := ?_) hS ?_ ?_; rotate_left 1; · (intro w0 hSw; (try dsimp only at hSw); go_split_ands; go_simp; try with_reducible rfl)) | fail
  try simp only [Act.put, pL]
  first | refine tkU 3 hS ?_ | (refine tkV 3 (v := ?_) hS ?_ ?_; rotate_left 1; · (intro w0 hSw; (try dsimp only at hSw); go_split_ands; go_simp; try with_reducible rfl)) | fail
  try simp only [Act.put, pL]
  first | refine tkU 6 hS ?_ | (refine tkV 6 (v := ?_) hS ?_ ?_; rotate_left 1; · (intro w0 hSw; (try dsimp only at hSw); go_split_ands; go_simp; try with_reducible rfl)) | fail
  try simp only [Act.put, pL]
  first | refine tkU 7 hS ?_ | (refine tkV 7 (v := ?_) hS ?_ ?_; rotate_left 1; · (intro w0 hSw; (try dsimp only at hSw); go_split_ands; go_simp; try with_reducible rfl)) | fail
  try simp only [Act.put, pL]
  first | refine tkU 8 hS ?_ | (refine tkV 8 (v := ?_) hS ?_ ?_; rotate_left 1; · (intro w0 hSw; (try dsimp only at hSw); go_split_ands; go_simp; try with_reducible rfl)) | fail
  try simp only [Act.put, pL]
  first | refine tkU 9 hS ?_ | (refine tkV 9 (v := ?_) hS ?_ ?_; rotate_left 1; · (intro w0 hSw; (try dsimp only at hSw); go_split_ands; go_simp; try with_reducible rfl)) | fail
  try simp only [Act.put, pL]
  refine wpAnyH_ready (rs := [4]) (by kernel_rfl) (by simp) ?_
  refine AllReadyH.cons rfl (fun K hK => ?_) AllReadyH.nil
  go_simp
  refine (CS.out _ (below_drew (Below.refl _ _))).mono ?_
  rintro e w1 ⟨rfl, hb⟩
  have HB1 := Aside0.mk (below_then (below_drew (Below.refl wb.heap.size wb)) (Nat.le_refl _) hb)
  clear hb hS
  have hS : (fun W : World => (W.cell? ⟨w.heap.size, 3, none⟩ = some (.slice (some ⟨kb1, ko1, none⟩) 2 d)) ∧ (W.cell? ⟨kb1, ko1, none⟩ = some (.int .i64 k0') ∧ W.cell? ⟨kb1, ko1 + 1, none⟩ = some (.string t0') ∧ W.cell? ⟨kb1, ko1 + 2, none⟩ = some (.slice A0' ts0'.length cc0') ∧ W.cell? ⟨kb1, ko1 + 3, none⟩ = some (.slice B0' ks0'.length d0')) ∧ (W.cell? ⟨kb1, ko1 + 4, none⟩ = some (.int .i64 k1') ∧ W.cell? ⟨kb1, ko1 + 5, none⟩ = some (.string t1') ∧ W.cell? ⟨kb1, ko1 + 6, none⟩ = some (.slice A1' ts1'.length cc1') ∧ W.cell? ⟨kb1, ko1 + 7, none⟩ = some (.slice B1' ks1'.length d1'))) w1 := HS.out _ HB1.out
  refine hK.out _ _ hS (fun _ => ?_)
  clear hK K
  try simp only [Act.put, pL]
  first | refine tkU 5 hS ?_ | (refine tkV 5 (v := ?_) hS ?_ ?_; rotate_left 1; · (intro w0 hSw; (try dsimp only at hSw); go_split_ands; go_simp; try with_reducible rfl)) | fail
  try simp only [Act.put, pL]
  refine wpAnyH_ready (rs := [10]) (by kernel_rfl) (by simp) ?_
  refine AllReadyH.cons rfl (fun K hK => ?_) AllReadyH.nil
  go_simp
  refine (CS2.out _ HB1.out).mono ?_
  rintro e w2 ⟨rfl, hb⟩
  have HB2 := Aside0.mk (below_then HB1.out HB1.out.size hb)
  clear hb hS
  have hS : (fun W : World => (W.cell? ⟨w.heap.size, 3, none⟩ = some (.slice (some ⟨kb1, ko1, none⟩) 2 d)) ∧ (W.cell? ⟨kb1, ko1, none⟩ = some (.int .i64 k0') ∧ W.cell? ⟨kb1, ko1 + 1, none⟩ = some (.string t0') ∧ W.cell? ⟨kb1, ko1 + 2, none⟩ = some (.slice A0' ts0'.length cc0') ∧ W.cell? ⟨kb1, ko1 + 3, none⟩ = some (.slice B0' ks0'.length d0')) ∧ (W.cell? ⟨kb1, ko1 + 4, none⟩ = some (.int .i64 k1') ∧ W.cell? ⟨kb1, ko1 + 5, none⟩ = some (.string t1') ∧ W.cell? ⟨kb1, ko1 + 6, none⟩ = some (.slice A1' ts1'.length cc1') ∧ W.cell? ⟨kb1, ko1 + 7, none⟩ = some (.slice B1' ks1'.length d1'))) w2 := HS.out _ HB2.out
  refine hK.out _ _ hS (fun _ => ?_)
  clear hK K
  try simp only [Act.put, pL]
  first | refine tkU 11 hS ?_ | (refine tkV 11 (v := ?_) hS ?_ ?_; rotate_left 1; · (intro w0 hSw; (try dsimp only at hSw); go_split_ands; go_simp; try with_reducible rfl)) | fail
  try simp only [Act.put, pL]
  first | refine tkU 12 hS ?_ | (refine tkV 12 (v := ?_) hS ?_ ?_; rotate_left 1; · (intro w0 hSw; (try dsimp only at hSw); go_split_ands; go_simp; try with_reducible rfl)) | fail
  try simp only [Act.put, pL]
  refine wpAnyH_done (by kernel_rfl) ?_ _
  go_wp2_with fail
  go_ret
  exact ⟨ret_str HW.out.symm, HB.out.trans (HB2.out.mono HB.out.size)⟩
set_option maxRecDepth 100000 in
set_option maxHeartbeats 8000000 in
theorem show_alt (q q2 : Pth) (hl : (showP q).length ≤ 1000000) (hl2 : (showP q2).length ≤ 1000000) (hS : ShowC 61 q (withinB q)) (hS2 : ShowC 61 q2 (withinB q2)) : ShowC 30 (.mk 4 ⟨#[]⟩ [] [q, q2]) (showB (.mk 4 ⟨#[]⟩ [] [q, q2])) := by
  intro w ok k t A n c B m d hp
  obtain ⟨A1, c1, B1, d1, e, hc1, hd1, hd2, hts, hks⟩ := path_cells hp
  obtain ⟨wb, hwb, HB, HN⟩ := boxP w k t A n c B m d
  have HHW : Aside0 (w.alloc (.cells #[.int .i64 k, .string t, .slice A n c, .slice B m d] 25) = wb) := ⟨hwb.symm⟩
  simp only [List.cons.injEq, Value.int.injEq, Value.string.injEq, Value.slice.injEq, true_and, and_true, List.length_nil, List.length_cons, Nat.zero_add, Nat.reduceAdd] at e hc1 hd1 hd2
  obtain ⟨rfl, rfl, ⟨rfl, rfl, rfl⟩, rfl, rfl, rfl⟩ := e
  obtain ⟨x, hx⟩ : ∃ x, withinB q = x := ⟨_, rfl⟩
  obtain ⟨y, hy⟩ : ∃ y, withinB q2 = y := ⟨_, rfl⟩
  have hxs : x.size ≤ 2000000 := by rw [← hx]; unfold withinB; rw [ba_size]; have := inB_len q (showP q); omega
  have hys : y.size ≤ 2000000 := by rw [← hy]; unfold withinB; rw [ba_size]; have := inB_len q2 (showP q2); omega
  have HW : Aside0 (showB (.mk 4 ⟨#[]⟩ [] [q, q2]) = x ++ (⟨#[124]⟩ : ByteArray) ++ y) := ⟨by
    rw [← hx, ← hy]
    apply ByteArray.ext
    rw [ByteArray.data_append, ByteArray.data_append]
    apply Array.ext'
    simp [showB, showP, showsL, glueL, withinB]⟩
  have hks2 : KidsAt wb ok B 0 [q, q2] := KidsAt.move (fun g _ hg => HB.out.block g hg) _ hks
  obtain ⟨kb0, ko0, cs0, hB0, -, hc0, hq0⟩ := KidsAt.get _ hks2 0 q rfl
  obtain ⟨k0', t0', ts0', ks0'⟩ := q
  obtain ⟨A0', cc0', B0', d0', rfl, -⟩ := path_cells hq0
  obtain ⟨kb1, ko1, cs1, hB1, -, hc1, hq1⟩ := KidsAt.get _ hks2 1 q2 rfl
  obtain ⟨k1', t1', ts1', ks1'⟩ := q2
  obtain ⟨A1', cc1', B1', d1', rfl, -⟩ := path_cells hq1
  have hBe : (⟨kb1, ko1, none⟩ : Addr) = ⟨kb0, ko0, none⟩ := Option.some.inj (hB1.symm.trans hB0)
  injection hBe with hb1 ho1
  subst hb1 ho1
  have a00 := hc0 0 _ rfl
  have a01 := hc0 1 _ rfl
  have a02 := hc0 2 _ rfl
  have a03 := hc0 3 _ rfl
  simp at a00 a01 a02 a03
  have a10 := hc1 0 _ rfl
  have a11 := hc1 1 _ rfl
  have a12 := hc1 2 _ rfl
  have a13 := hc1 3 _ rfl
  simp [Nat.add_assoc] at a10 a11 a12 a13
  subst hB0
  have CS : Aside0 (∀ W, Below wb.heap.size wb W → Calls Tryd.prog 61 #[.agg #[.int .i64 k0', .string t0', .slice A0' ts0'.length cc0', .slice B0' ks0'.length d0']] W fun e w' => e = .returned (.string x) ∧ Below W.heap.size W w') := ⟨fun W hW => by
    have := hS W ok k0' t0' A0' ts0'.length cc0' B0' ks0'.length d0' (hq0.below hW)
    rwa [hx] at this⟩
  have CS2 : Aside0 (∀ W, Below wb.heap.size wb W → Calls Tryd.prog 61 #[.agg #[.int .i64 k1', .string t1', .slice A1' ts1'.length cc1', .slice B1' ks1'.length d1']] W fun e w' => e = .returned (.string y) ∧ Below W.heap.size W w') := ⟨fun W hW => by
    have := hS2 W ok k1' t1' A1' ts1'.length cc1' B1' ks1'.length d1' (hq1.below hW)
    rwa [hy] at this⟩
  have q3 := blk_cell HN.out 3
  simp at q3
  have HS : Aside0 (∀ W, Below wb.heap.size wb W → (fun W : World => (W.cell? ⟨w.heap.size, 3, none⟩ = some (.slice (some ⟨kb1, ko1, none⟩) 2 d)) ∧ (W.cell? ⟨kb1, ko1, none⟩ = some (.int .i64 k0') ∧ W.cell? ⟨kb1, ko1 + 1, none⟩ = some (.string t0') ∧ W.cell? ⟨kb1, ko1 + 2, none⟩ = some (.slice A0' ts0'.length cc0') ∧ W.cell? ⟨kb1, ko1 + 3, none⟩ = some (.slice B0' ks0'.length d0')) ∧ (W.cell? ⟨kb1, ko1 + 4, none⟩ = some (.int .i64 k1') ∧ W.cell? ⟨kb1, ko1 + 5, none⟩ = some (.string t1') ∧ W.cell? ⟨kb1, ko1 + 6, none⟩ = some (.slice A1' ts1'.length cc1') ∧ W.cell? ⟨kb1, ko1 + 7, none⟩ = some (.slice B1' ks1'.length d1'))) W) := ⟨fun W h => ⟨pw_cell_below h q3, ⟨pw_cell_below h a00, pw_cell_below h a01, pw_cell_below h a02, pw_cell_below h a03⟩, ⟨pw_cell_below h a10, pw_cell_below h a11, pw_cell_below h a12, pw_cell_below h a13⟩⟩⟩
  clear hwb hp hts hks hx hy hS hS2 hc0 hq0 hc1 hq1 hks2 hl hl2 a00 a01 a02 a03 a10 a11 a12 a13 q3
  have hn1 : ¬ 9223372036854775807 < x.size + 1 := by omega
  have hn2 : ¬ 9223372036854775807 < x.size + 1 + y.size := by omega
  clear hB1
  go_enter Tryd.func30, Tryd.ntmps30
  go_upto_region 1 with (fail)
  rw [HHW.out]
  have q0 := blk_cell HN.out 0; have q1 := blk_cell HN.out 1; have q2 := blk_cell HN.out 2; have q3 := blk_cell HN.out 3; simp at q0 q1 q2 q3
  go_upto_region 9 with (fail)
  clear q0 q1 q2 q3
  have hS : (fun W : World => (W.cell? ⟨w.heap.size, 3, none⟩ = some (.slice (some ⟨kb1, ko1, none⟩) 2 d)) ∧ (W.cell? ⟨kb1, ko1, none⟩ = some (.int .i64 k0') ∧ W.cell? ⟨kb1, ko1 + 1, none⟩ = some (.string t0') ∧ W.cell? ⟨kb1, ko1 + 2, none⟩ = some (.slice A0' ts0'.length cc0') ∧ W.cell? ⟨kb1, ko1 + 3, none⟩ = some (.slice B0' ks0'.length d0')) ∧ (W.cell? ⟨kb1, ko1 + 4, none⟩ = some (.int .i64 k1') ∧ W.cell? ⟨kb1, ko1 + 5, none⟩ = some (.string t1') ∧ W.cell? ⟨kb1, ko1 + 6, none⟩ = some (.slice A1' ts1'.length cc1') ∧ W.cell? ⟨kb1, ko1 + 7, none⟩ = some (.slice B1' ks1'.length d1'))) wb.drew := HS.out _ (below_drew (Below.refl _ _))
  refine wp_region_held (S := (fun W : World => (W.cell? ⟨w.heap.size, 3, none⟩ = some (.slice (some ⟨kb1, ko1, none⟩) 2 d)) ∧ (W.cell? ⟨kb1, ko1, none⟩ = some (.int .i64 k0') ∧ W.cell? ⟨kb1, ko1 + 1, none⟩ = some (.string t0') ∧ W.cell? ⟨kb1, ko1 + 2, none⟩ = some (.slice A0' ts0'.length cc0') ∧ W.cell? ⟨kb1, ko1 + 3, none⟩ = some (.slice B0' ks0'.length d0')) ∧ (W.cell? ⟨kb1, ko1 + 4, none⟩ = some (.int .i64 k1') ∧ W.cell? ⟨kb1, ko1 + 5, none⟩ = some (.string t1') ∧ W.cell? ⟨kb1, ko1 + 6, none⟩ = some (.slice A1' ts1'.length cc1') ∧ W.cell? ⟨kb1, ko1 + 7, none⟩ = some (.slice B1' ks1'.length d1')))) (by kernel_rfl) ?_
  change wpAnyH _ _ _ _ _ _ _ _ wb.drew
  first | refine tkU 0 hS ?_ | (refine tkV 0 (v := ?_) hS ?_ ?_; rotate_left 1; · (intro w0 hSw; (try dsimp only at hSw); go_split_ands; go_simp; try with_reducible rfl)) | fail
  try simp only [Act.put, pL]
  first | refine tkU 1 hS ?_ | (refine tkV 1 (v := ?_) hS ?_ ?_; rotate_left 1; · (intro w0 hSw; (try dsimp only at hSw); go_split_ands; go_simp; try with_reducible rfl)) | fail
  try simp only [Act.put, pL]
  first | refine tkU 2 hS ?_ | (refine tkV 2 (v := ?_) hS ?_ ?_; rotate_left 1; · (intro w0 hSw; (try dsimp only at hSw); go_split_ands; go_simp; try with_reducible rfl)) | fail
  try simp only [Act.put, pL]
  first | refine tkU 3 hS ?_ | (refine tkV 3 (v := ?_) hS ?_ ?_; rotate_left 1; · (intro w0 hSw; (try dsimp only at hSw); go_split_ands; go_simp; try with_reducible rfl)) | fail
  try simp only [Act.put, pL]
  first | refine tkU 6 hS ?_ | (refine tkV 6 (v := ?_) hS ?_ ?_; rotate_left 1; · (intro w0 hSw; (try dsimp only at hSw); go_split_ands; go_simp; try with_reducible rfl)) | fail
  try simp only [Act.put, pL]
  first | refine tkU 7 hS ?_ | (refine tkV 7 (v := ?_) hS ?_ ?_; rotate_left 1; · (intro w0 hSw; (try dsimp only at hSw); go_split_ands; go_simp; try with_reducible rfl)) | fail
  try simp only [Act.put, pL]
  first | refine tkU 8 hS ?_ | (refine tkV 8 (v := ?_) hS ?_ ?_; rotate_left 1; · (intro w0 hSw; (try dsimp only at hSw); go_split_ands; go_simp; try with_reducible rfl)) | fail
  try simp only [Act.put, pL]
  first | refine tkU 9 hS ?_ | (refine tkV 9 (v := ?_) hS ?_ ?_; rotate_left 1; · (intro w0 hSw; (try dsimp only at hSw); go_split_ands; go_simp; try with_reducible rfl)) | fail
  try simp only [Act.put, pL]
  refine wpAnyH_ready (rs := [4]) (by kernel_rfl) (by simp) ?_
  refine AllReadyH.cons rfl (fun K hK => ?_) AllReadyH.nil
  go_simp
  refine (CS.out _ (below_drew (Below.refl _ _))).mono ?_
  rintro e w1 ⟨rfl, hb⟩
  have HB1 := Aside0.mk (below_then (below_drew (Below.refl wb.heap.size wb)) (Nat.le_refl _) hb)
  clear hb hS
  have hS : (fun W : World => (W.cell? ⟨w.heap.size, 3, none⟩ = some (.slice (some ⟨kb1, ko1, none⟩) 2 d)) ∧ (W.cell? ⟨kb1, ko1, none⟩ = some (.int .i64 k0') ∧ W.cell? ⟨kb1, ko1 + 1, none⟩ = some (.string t0') ∧ W.cell? ⟨kb1, ko1 + 2, none⟩ = some (.slice A0' ts0'.length cc0') ∧ W.cell? ⟨kb1, ko1 + 3, none⟩ = some (.slice B0' ks0'.length d0')) ∧ (W.cell? ⟨kb1, ko1 + 4, none⟩ = some (.int .i64 k1') ∧ W.cell? ⟨kb1, ko1 + 5, none⟩ = some (.string t1') ∧ W.cell? ⟨kb1, ko1 + 6, none⟩ = some (.slice A1' ts1'.length cc1') ∧ W.cell? ⟨kb1, ko1 + 7, none⟩ = some (.slice B1' ks1'.length d1'))) w1 := HS.out _ HB1.out
  refine hK.out _ _ hS (fun _ => ?_)
  clear hK K
  try simp only [Act.put, pL]
  first | refine tkU 5 hS ?_ | (refine tkV 5 (v := ?_) hS ?_ ?_; rotate_left 1; · (intro w0 hSw; (try dsimp only at hSw); go_split_ands; go_simp; try with_reducible rfl)) | fail
  try simp only [Act.put, pL]
  refine wpAnyH_ready (rs := [10]) (by kernel_rfl) (by simp) ?_
  refine AllReadyH.cons rfl (fun K hK => ?_) AllReadyH.nil
  go_simp
  refine (CS2.out _ HB1.out).mono ?_
  rintro e w2 ⟨rfl, hb⟩
  have HB2 := Aside0.mk (below_then HB1.out HB1.out.size hb)
  clear hb hS
  have hS : (fun W : World => (W.cell? ⟨w.heap.size, 3, none⟩ = some (.slice (some ⟨kb1, ko1, none⟩) 2 d)) ∧ (W.cell? ⟨kb1, ko1, none⟩ = some (.int .i64 k0') ∧ W.cell? ⟨kb1, ko1 + 1, none⟩ = some (.string t0') ∧ W.cell? ⟨kb1, ko1 + 2, none⟩ = some (.slice A0' ts0'.length cc0') ∧ W.cell? ⟨kb1, ko1 + 3, none⟩ = some (.slice B0' ks0'.length d0')) ∧ (W.cell? ⟨kb1, ko1 + 4, none⟩ = some (.int .i64 k1') ∧ W.cell? ⟨kb1, ko1 + 5, none⟩ = some (.string t1') ∧ W.cell? ⟨kb1, ko1 + 6, none⟩ = some (.slice A1' ts1'.length cc1') ∧ W.cell? ⟨kb1, ko1 + 7, none⟩ = some (.slice B1' ks1'.length d1'))) w2 := HS.out _ HB2.out
  refine hK.out _ _ hS (fun _ => ?_)
  clear hK K
  try simp only [Act.put, pL]
  first | refine tkU 11 hS ?_ | (refine tkV 11 (v := ?_) hS ?_ ?_; rotate_left 1; · (intro w0 hSw; (try dsimp only at hSw); go_split_ands; go_simp; try with_reducible rfl)) | fail
  try simp only [Act.put, pL]
  first | refine tkU 12 hS ?_ | (refine tkV 12 (v := ?_) hS ?_ ?_; rotate_left 1; · (intro w0 hSw; (try dsimp only at hSw); go_split_ands; go_simp; try with_reducible rfl)) | fail
  try simp only [Act.put, pL]
  refine wpAnyH_done (by kernel_rfl) ?_ _
  go_wp2_with fail
  go_ret
  exact ⟨ret_str HW.out.symm, HB.out.trans (HB2.out.mono HB.out.size)⟩
/-- A negated set, as far as it is written. -/
def accN (ts : List ByteArray) : Nat → ByteArray
  | 0 => ⟨#[33, 40]⟩
  | i + 1 => (if 0 < i then accN ts i ++ (⟨#[124]⟩ : ByteArray) else accN ts i) ++ (⟨#[60]⟩ : ByteArray) ++ ts.getD i ByteArray.empty ++ (⟨#[62]⟩ : ByteArray)
theorem accN_size {ts : List ByteArray} (h : ∀ x ∈ ts, x.size ≤ 60) : ∀ i, (accN ts i).size ≤ 2 + 63 * i
  | 0 => by show 2 ≤ _; omega
  | i + 1 => by
    have ih := accN_size h i
    have hx : (ts.getD i ByteArray.empty).size ≤ 60 := by
      rcases Nat.lt_or_ge i ts.length with hi | hi
      · rw [List.getD_eq_getElem?_getD, List.getElem?_eq_getElem hi]
        exact h _ (List.getElem_mem hi)
      · rw [List.getD_eq_getElem?_getD, List.getElem?_eq_none hi]
        show 0 ≤ 60
        omega
    have h1 : (⟨#[60]⟩ : ByteArray).size = 1 := rfl
    have h2 : (⟨#[62]⟩ : ByteArray).size = 1 := rfl
    have h3 : (⟨#[124]⟩ : ByteArray).size = 1 := rfl
    unfold accN
    split <;> simp only [ByteArray.size_append, h1, h2, h3] <;> omega
theorem accN_data (ts : List ByteArray) (i : Nat) : (accN ts (i + 1)).data.toList = (accN ts i).data.toList ++ (if 0 < i then [124] else []) ++ 60 :: ((ts.getD i ByteArray.empty).data.toList ++ [62]) := by
  rw [show accN ts (i + 1) = (if 0 < i then accN ts i ++ (⟨#[124]⟩ : ByteArray) else accN ts i) ++ (⟨#[60]⟩ : ByteArray) ++ ts.getD i ByteArray.empty ++ (⟨#[62]⟩ : ByteArray) from rfl]
  split <;> simp [ByteArray.data_append]
theorem accN_all {ts : List ByteArray} (h1 : 1 ≤ ts.length) (h4 : ts.length ≤ 4) : accN ts ts.length ++ (⟨#[41]⟩ : ByteArray) = showB (.mk 8 ⟨#[]⟩ ts []) := by
  apply ByteArray.ext
  apply Array.ext'
  rw [ByteArray.data_append, Array.toList_append]
  rcases ts with _ | ⟨a, _ | ⟨b, _ | ⟨c, _ | ⟨d, _ | ⟨e, l⟩⟩⟩⟩⟩
  · simp at h1
  · simp only [List.length_cons, List.length_nil]
    simp [accN_data, showB, showP, showsL, glueL, Lib.join, List.intercalate]
    rfl
  · simp only [List.length_cons, List.length_nil]
    simp [accN_data, showB, showP, showsL, glueL, Lib.join, List.intercalate]
    rfl
  · simp only [List.length_cons, List.length_nil]
    simp [accN_data, showB, showP, showsL, glueL, Lib.join, List.intercalate]
    rfl
  · simp only [List.length_cons, List.length_nil]
    simp [accN_data, showB, showP, showsL, glueL, Lib.join, List.intercalate]
    rfl
  · simp at h4
set_option maxRecDepth 100000 in
set_option maxHeartbeats 8000000 in
theorem show_not (ts0 : List ByteArray) (h1 : 1 ≤ ts0.length) (h4 : ts0.length ≤ 4) (hi : ts0.all iriB = true) : ShowC 30 (.mk 8 ⟨#[]⟩ ts0 []) (showB (.mk 8 ⟨#[]⟩ ts0 [])) := by
  intro w ok k t A n c B m d hp
  obtain ⟨A1, c1, B1, d1, e, hc1, hd1, hd2, hts, hks⟩ := path_cells hp
  obtain ⟨wb, hwb, HB, HN⟩ := boxP w k t A n c B m d
  have HHW : Aside0 (w.alloc (.cells #[.int .i64 k, .string t, .slice A n c, .slice B m d] 25) = wb) := ⟨hwb.symm⟩
  simp only [List.cons.injEq, Value.int.injEq, Value.string.injEq, Value.slice.injEq, true_and, and_true, List.length_nil, List.length_cons, Nat.zero_add, Nat.reduceAdd] at e hc1 hd1 hd2
  obtain ⟨rfl, rfl, ⟨rfl, rfl, rfl⟩, rfl, rfl, rfl⟩ := e
  have HZ := Aside0.mk (accN_size (ts := ts0) (fun x hx => iri_size (List.all_eq_true.1 hi x hx)))
  have HW := Aside0.mk (accN_all h1 h4)
  have HA0 : Aside0 (accN ts0 0 = ⟨#[33, 40]⟩) := ⟨rfl⟩
  have HTS : Aside0 (TsAt wb ok A ts0) := ⟨hts.move (fun g _ hg => HB.out.block g hg)⟩
  have HI := Aside0.mk hi
  clear hwb hp hts hks hi
  go_enter Tryd.func30, Tryd.ntmps30
  go_upto_region 1 with (fail)
  rw [HHW.out]
  have q0 := blk_cell HN.out 0; have q1 := blk_cell HN.out 1; have q2 := blk_cell HN.out 2; have q3 := blk_cell HN.out 3; simp at q0 q1 q2 q3
  go_wp2_with fail
  go_loopw [3, 4] (fun x y wr => ∃ i : Nat, i ≤ ts0.length ∧ x = .string (accN ts0 i) ∧ y = .int .i64 i ∧ Aside0 (wr = wb)) (fun _ y _ => ts0.length - (intOf y).toNat)
  case atStart => exact ⟨0, by omega, by rw [HA0.out], rfl, ⟨by first | trivial | rfl⟩⟩
  case round =>
    obtain ⟨i, hi, rfl, rfl, hw⟩ := hrel
    obtain rfl := hw.out.symm
    have hz := HZ.out i
    by_cases hin : i < ts0.length
    · obtain ⟨x, hx⟩ : ∃ x, ts0[i]? = some x := ⟨ts0[i]'hin, List.getElem?_eq_getElem _⟩
      obtain ⟨tb, tf, hA, -, htc⟩ := HTS.out.2 (by omega)
      have hc1 := htc i x hx
      subst hA
      have g0 : (0 : Int) ≤ (i : Int) := by omega
      have g1 : (i : Int) < (ts0.length : Int) := by omega
      have hxs : x.size ≤ 60 := iri_size (List.all_eq_true.1 HI.out x (List.mem_of_getElem? hx))
      have hg : ts0.getD i ByteArray.empty = x := by rw [List.getD_eq_getElem?_getD, hx]; rfl
      clear htc
      by_cases h0 : 0 < i
      · have HS : Aside0 (accN ts0 (i + 1) = accN ts0 i ++ (⟨#[124]⟩ : ByteArray) ++ (⟨#[60]⟩ : ByteArray) ++ x ++ (⟨#[62]⟩ : ByteArray)) := ⟨by
          rw [← hg]
          conv => lhs; unfold accN
          rw [if_pos h0]⟩
        have g2 : decide ((0 : Int) < (i : Int)) = true := by rw [decide_eq_true_eq]; omega
        obtain ⟨a, ha⟩ : ∃ a, accN ts0 i = a := ⟨_, rfl⟩
        rw [ha] at HS hz ⊢
        clear ha hg hx
        have z1 : ¬ 9223372036854775807 < a.size + 1 := by omega
        have z2 : ¬ 9223372036854775807 < a.size + 1 + 1 := by omega
        have z3 : ¬ 9223372036854775807 < a.size + 1 + 1 + x.size := by omega
        have z4 : ¬ 9223372036854775807 < a.size + 1 + 1 + x.size + 1 := by omega
        go_wp2_with fail
        go_roundw
        case rel => exact ⟨i + 1, by omega, by rw [HS.out], by go_num, ⟨by first | trivial | rfl⟩⟩
        case measure => simp [intOf]; omega
      · obtain rfl : i = 0 := by omega
        rw [Nat.add_zero] at hc1
        have HS : Aside0 (accN ts0 1 = accN ts0 0 ++ (⟨#[60]⟩ : ByteArray) ++ x ++ (⟨#[62]⟩ : ByteArray)) := ⟨by
          rw [← hg]
          rfl⟩
        obtain ⟨a, ha⟩ : ∃ a, accN ts0 0 = a := ⟨_, rfl⟩
        rw [ha] at HS hz HA0 ⊢
        clear ha hg hx
        have z1 : ¬ 9223372036854775807 < a.size + 1 := by omega
        have z3 : ¬ 9223372036854775807 < a.size + 1 + x.size := by omega
        have z4 : ¬ 9223372036854775807 < a.size + 1 + x.size + 1 := by omega
        go_wp2_with fail
        go_roundw
        case rel => exact ⟨1, by omega, by rw [HS.out], by go_num, ⟨by first | trivial | rfl⟩⟩
        case measure => simp [intOf]; omega
    · obtain rfl : i = ts0.length := by omega
      obtain ⟨a, ha⟩ : ∃ a, accN ts0 ts0.length = a := ⟨_, rfl⟩
      rw [ha] at HW hz ⊢
      clear ha
      have z1 : ¬ 9223372036854775807 < a.size + 1 := by omega
      go_wp2_with fail
      go_ret
      exact ⟨ret_str HW.out, HB.out⟩
theorem show_any : ∀ (p : Pth) (d n : Nat), countP p d = some n → n ≤ 1000 → ShowC 30 p (showB p) := by
  intro p
  induction p using Pth.ind with
  | h k t ts ks ih =>
  intro d n h hn
  obtain ⟨hh, m, hm, rfl⟩ := count_mk h
  obtain ⟨h1, h2, h3, h4⟩ := here_kind hh
  rcases kinds_of h2 with ⟨rfl, hk⟩ | ⟨rfl, hk⟩ | ⟨rfl, hk⟩ | ⟨rfl, hk⟩ | ⟨rfl, hk⟩ | ⟨rfl, hk⟩ | ⟨rfl, hk⟩ | ⟨rfl, hk⟩
  · rw [if_pos rfl] at h3
    rw [if_neg (by decide)] at h4
    obtain rfl := List.eq_nil_of_length_eq_zero hk
    obtain rfl := List.eq_nil_of_length_eq_zero h4
    exact show_iri t h3
  · rw [if_pos rfl] at h4
    rw [if_neg (by decide)] at h3
    obtain rfl := List.eq_nil_of_length_eq_zero hk
    obtain rfl := empty_list h3
    exact show_not ts h4.1 h4.2.1 h4.2.2
  · rw [if_neg (by decide)] at h3 h4
    obtain ⟨q, rfl⟩ := list1 hk
    obtain rfl := empty_list h3
    obtain rfl := List.eq_nil_of_length_eq_zero h4
    have hl := show_len q _ _ (count_one hm)
    exact show_back q (by omega) (br_any q (by omega) (ih q (by simp) _ _ (count_one hm) (by omega)))
  · rw [if_neg (by decide)] at h3 h4
    obtain ⟨q, rfl⟩ := list1 hk
    obtain rfl := empty_list h3
    obtain rfl := List.eq_nil_of_length_eq_zero h4
    have hl := show_len q _ _ (count_one hm)
    exact show_star q (by omega) (br_any q (by omega) (ih q (by simp) _ _ (count_one hm) (by omega)))
  · rw [if_neg (by decide)] at h3 h4
    obtain ⟨q, rfl⟩ := list1 hk
    obtain rfl := empty_list h3
    obtain rfl := List.eq_nil_of_length_eq_zero h4
    have hl := show_len q _ _ (count_one hm)
    exact show_plus q (by omega) (br_any q (by omega) (ih q (by simp) _ _ (count_one hm) (by omega)))
  · rw [if_neg (by decide)] at h3 h4
    obtain ⟨q, rfl⟩ := list1 hk
    obtain rfl := empty_list h3
    obtain rfl := List.eq_nil_of_length_eq_zero h4
    have hl := show_len q _ _ (count_one hm)
    exact show_maybe q (by omega) (br_any q (by omega) (ih q (by simp) _ _ (count_one hm) (by omega)))
  · rw [if_neg (by decide)] at h3 h4
    obtain ⟨q, q2, rfl⟩ := list2 hk
    obtain ⟨a, b, ha, hb, rfl⟩ := count_two hm
    obtain rfl := empty_list h3
    obtain rfl := List.eq_nil_of_length_eq_zero h4
    have hl := show_len q _ _ ha
    have hl2 := show_len q2 _ _ hb
    exact show_seq q q2 (by omega) (by omega) (br_any q (by omega) (ih q (by simp) _ _ ha (by omega))) (br_any q2 (by omega) (ih q2 (by simp) _ _ hb (by omega)))
  · rw [if_neg (by decide)] at h3 h4
    obtain ⟨q, q2, rfl⟩ := list2 hk
    obtain ⟨a, b, ha, hb, rfl⟩ := count_two hm
    obtain rfl := empty_list h3
    obtain rfl := List.eq_nil_of_length_eq_zero h4
    have hl := show_len q _ _ ha
    have hl2 := show_len q2 _ _ hb
    exact show_alt q q2 (by omega) (by omega) (br_any q (by omega) (ih q (by simp) _ _ ha (by omega))) (br_any q2 (by omega) (ih q2 (by simp) _ _ hb (by omega)))
end Go.Proofs.YtbaegfjoionojaaDoor.Qr
