/- The law QueryMay: of any query whether it may be; its variables. -/
import Derived.Test.YtbaegfjoionojaaDoorQvK
import Derived.Test.YtbaegfjoionojaaDoorQyW
import Derived.Test.YtbaegfjoionojaaDoorQyU
import Derived.Test.YtbaegfjoionojaaDoorQyN
set_option linter.unusedSimpArgs false
set_option linter.unusedVariables false
namespace Go.Proofs.YtbaegfjoionojaaDoor.Qy
open Go Go.RowKit Go.Proofs.YtbaegfjoionojaaDoor.Tm Go.Proofs.YtbaegfjoionojaaDoorW.PrintWords

theorem big_c : BigQ := fun p W k t A n c B m e h => by
  have := big_any p 0 (by decide) W anyB k t A n c B m e h
  exact this
theorem is_c : IsC 32 := fun p W k t A n c B m e hb hp hT => is_path p hb W anyB k t A n c B m e hp hT
theorem refIs_c : IsC 24 := fun p W k t A n c B m e hb hp hT => refIs_path p hb W anyB k t A n c B m e hp hT
theorem both_are {a b : Bool} {P : Prop} (h1 : a = true ↔ P) (h2 : b = true ↔ P) : a = b := by
  have : (a = true ↔ b = true) := h1.trans h2.symm
  cases a <;> cases b <;> simp_all
set_option maxRecDepth 100000 in
set_option maxHeartbeats 8000000 in
theorem may_go (q : Qry) (hn : Nar q) (w wb : World) (A : Option Addr) (c : Nat) (B : Option Addr) (c' : Nat) (D : Option Addr) (d : Nat) (hc : q.vars.length ≤ c) (hts : TsAt wb anyB A q.vars) (hps : RowAt wb B 12 q.pats (PatAt wb)) (hfs : RowAt wb D 3 q.fils FilAt) (hT : Tabs wb) (hB : Below w.heap.size w wb)
    (hhw : w.alloc (.cells #[.bool q.ask, .slice A q.vars.length c, .slice B q.pats.length c', .slice D q.fils.length d, .int .i64 q.lim, .int .i64 q.off] 68) = wb)
    (hN : wb.heap[w.heap.size]? = some (.cells #[.bool q.ask, .slice A q.vars.length c, .slice B q.pats.length c', .slice D q.fils.length d, .int .i64 q.lim, .int .i64 q.off] 68 (0, 0)))
    (hw : Calls Tryd.prog 47 #[.agg #[.bool q.ask, .slice A q.vars.length c, .slice B q.pats.length c', .slice D q.fils.length d, .int .i64 q.lim, .int .i64 q.off]] wb (WideP wb q)) :
    Calls Tryd.prog 21 #[.agg #[.bool q.ask, .slice A q.vars.length c, .slice B q.pats.length c', .slice D q.fils.length d, .int .i64 q.lim, .int .i64 q.off]] w fun e w' => e = .returned (.bool true) ∧ Below w.heap.size w w' := by
  have hnp := hn.1
  obtain ⟨P, hP⟩ : ∃ P, IsQ q = P := ⟨_, rfl⟩
  have hIS := fun (W : World) (h : Below wb.heap.size wb W) => is_any_q is_c q hn W A c B c' D d hc (hts.move (fun g _ hg => h.block g hg)) (hps.below h (fun a cs h2 => h2.below h)) (hfs.below h (fun a cs h => h)) (hT.below h)
  have hIR := fun (W : World) (h : Below wb.heap.size wb W) => refIs_any_q refIs_c q hn W A c B c' D d hc (hts.move (fun g _ hg => h.block g hg)) (hps.below h (fun a cs h2 => h2.below h)) (hfs.below h (fun a cs h => h)) (hT.below h)
  have hVA := fun (W : World) (h : Below wb.heap.size wb W) => vars_any q W A c B c' D d (hps.below h (fun a cs h2 => h2.below h)) (by omega)
  have hVR := fun (W : World) (h : Below wb.heap.size wb W) => refVars_any q W A c B c' D d (hps.below h (fun a cs h2 => h2.below h)) (by omega)
  rw [hP] at hIS hIR
  have hll := varsL_len q.pats q.pats.length (Nat.le_refl _)
  rw [List.take_length] at hll
  obtain ⟨l, hl⟩ : ∃ l, varsL q.pats = l := ⟨_, rfl⟩
  rw [hl] at hVA hVR hll
  obtain ⟨ask, vs, ps, fs, lim, off⟩ := q
  simp only at hnp hll hc hhw hN hw hIS hIR hVA hVR ⊢
  have CI := Aside0.mk hIS
  have CJ := Aside0.mk hIR
  have CV := Aside0.mk hVA
  have CR := Aside0.mk hVR
  have CW := Aside0.mk hw
  have CK : Aside0 (∀ W, Below wb.heap.size wb W → Calls Tryd.prog 28 #[] W fun e w' => e = .returned (.bool true) ∧ Below W.heap.size W w') := ⟨fun W h => known_any W (hT.below h)⟩
  have HHW := Aside0.mk hhw
  have HB := Aside0.mk hB
  have HS : Aside0 (∀ W, Below wb.heap.size wb W → (fun W : World => W.cell? ⟨w.heap.size, 0, none⟩ = some (.bool ask) ∧ W.cell? ⟨w.heap.size, 1, none⟩ = some (.slice A vs.length c) ∧ W.cell? ⟨w.heap.size, 2, none⟩ = some (.slice B ps.length c') ∧ W.cell? ⟨w.heap.size, 3, none⟩ = some (.slice D fs.length d) ∧ W.cell? ⟨w.heap.size, 4, none⟩ = some (.int .i64 lim) ∧ W.cell? ⟨w.heap.size, 5, none⟩ = some (.int .i64 off)) W) := ⟨fun W h => ⟨(blk_cell (blk_below hN h) 0).trans rfl, (blk_cell (blk_below hN h) 1).trans rfl, (blk_cell (blk_below hN h) 2).trans rfl, (blk_cell (blk_below hN h) 3).trans rfl, (blk_cell (blk_below hN h) 4).trans rfl, (blk_cell (blk_below hN h) 5).trans rfl⟩⟩
  have HB0 : Aside0 (Below wb.heap.size wb wb) := ⟨Below.refl _ _⟩
  clear hn hts hps hfs hT hB hhw hN hw hP hIS hIR hVA hVR hl
  go_enter Tryd.func21, Tryd.ntmps21
  go_upto_region 1 with (fail)
  rw [HHW.out]
  obtain ⟨q0, q1, q2, q3, q4, q5⟩ := HS.out _ HB0.out
  go_upto_region 3 with (go_at_call 47; (with_reducible refine CW.out.mono ?_); rintro e w1 ⟨b1, rfl, -, hb⟩; have HB1 := Aside0.mk hb; clear hb; clear q0 q1 q2 q3 q4 q5; obtain ⟨q0, q1, q2, q3, q4, q5⟩ := HS.out _ HB1.out; cases b1)
  rotate_left 1
  · go_wp2_with fail
    go_ret
    exact ⟨rfl, w_then HB.out HB1.out⟩
  clear q0 q1 q2 q3 q4 q5
  have hS : (fun W : World => W.cell? ⟨w.heap.size, 0, none⟩ = some (.bool ask) ∧ W.cell? ⟨w.heap.size, 1, none⟩ = some (.slice A vs.length c) ∧ W.cell? ⟨w.heap.size, 2, none⟩ = some (.slice B ps.length c') ∧ W.cell? ⟨w.heap.size, 3, none⟩ = some (.slice D fs.length d) ∧ W.cell? ⟨w.heap.size, 4, none⟩ = some (.int .i64 lim) ∧ W.cell? ⟨w.heap.size, 5, none⟩ = some (.int .i64 off)) w1.drew := HS.out _ (below_drew HB1.out)
  refine wp_region_held (S := (fun W : World => W.cell? ⟨w.heap.size, 0, none⟩ = some (.bool ask) ∧ W.cell? ⟨w.heap.size, 1, none⟩ = some (.slice A vs.length c) ∧ W.cell? ⟨w.heap.size, 2, none⟩ = some (.slice B ps.length c') ∧ W.cell? ⟨w.heap.size, 3, none⟩ = some (.slice D fs.length d) ∧ W.cell? ⟨w.heap.size, 4, none⟩ = some (.int .i64 lim) ∧ W.cell? ⟨w.heap.size, 5, none⟩ = some (.int .i64 off))) (by kernel_rfl) ?_
  change wpAnyH _ _ _ _ _ _ _ _ w1.drew
  first | refine tkU 0 hS ?_ | (refine tkV 0 (v := ?_) hS ?_ ?_; rotate_left 1; · (intro w0 hSw; (try dsimp only at hSw); go_split_ands; go_simp; try with_reducible rfl)) | fail
  try simp only [Act.put, pL]
  first | refine tkU 2 hS ?_ | (refine tkV 2 (v := ?_) hS ?_ ?_; rotate_left 1; · (intro w0 hSw; (try dsimp only at hSw); go_split_ands; go_simp; try with_reducible rfl)) | fail
  try simp only [Act.put, pL]
  refine wpAnyH_ready (rs := [1]) (by kernel_rfl) (by simp) ?_
  refine AllReadyH.cons rfl (fun K hK => ?_) AllReadyH.nil
  go_simp
  refine (CV.out _ (below_drew HB1.out)).mono ?_
  rintro e w2 ⟨E1, c1, rfl, hle1, hte1, hb⟩
  have HB2 := Aside0.mk (below_then (below_drew HB1.out) (below_drew HB1.out).size hb)
  have HE1 := Aside0.mk hte1; clear hte1
  clear hb hS
  have hS := HS.out _ HB2.out
  refine hK.out _ _ hS (fun _ => ?_)
  clear hK K
  try simp only [Act.put, pL]
  refine wpAnyH_ready (rs := [3]) (by kernel_rfl) (by simp) ?_
  refine AllReadyH.cons rfl (fun K hK => ?_) AllReadyH.nil
  go_simp
  refine (CR.out _ HB2.out).mono ?_
  rintro e w3 ⟨E2, c2, rfl, hle2, hte2, hb⟩
  have HB3 := Aside0.mk (below_then HB2.out HB2.out.size hb)
  have HE2 := Aside0.mk hte2; clear hte2; have HE1 := Aside0.mk (HE1.out.move (fun g _ hg => hb.block g hg))
  clear hb hS
  have hS := HS.out _ HB3.out
  refine hK.out _ _ hS (fun _ => ?_)
  clear hK K
  try simp only [Act.put, pL]
  first | refine tkU 4 hS ?_ | (refine tkV 4 (v := ?_) hS ?_ ?_; rotate_left 1; · (intro w0 hSw; (try dsimp only at hSw); go_split_ands; go_simp; try with_reducible rfl)) | fail
  try simp only [Act.put, pL]
  first | refine tkU 5 hS ?_ | (refine tkV 5 (v := ?_) hS ?_ ?_; rotate_left 1; · (intro w0 hSw; (try dsimp only at hSw); go_split_ands; go_simp; try with_reducible rfl)) | fail
  try simp only [Act.put, pL]
  refine wpAnyH_done (by kernel_rfl) ?_ _
  obtain ⟨q0, q1, q2, q3, q4, q5⟩ := hS
  go_upto_region 4 with (fail)
  clear q0 q1 q2 q3 q4 q5
  have hS : (fun W : World => W.cell? ⟨w.heap.size, 0, none⟩ = some (.bool ask) ∧ W.cell? ⟨w.heap.size, 1, none⟩ = some (.slice A vs.length c) ∧ W.cell? ⟨w.heap.size, 2, none⟩ = some (.slice B ps.length c') ∧ W.cell? ⟨w.heap.size, 3, none⟩ = some (.slice D fs.length d) ∧ W.cell? ⟨w.heap.size, 4, none⟩ = some (.int .i64 lim) ∧ W.cell? ⟨w.heap.size, 5, none⟩ = some (.int .i64 off)) w3.drew := HS.out _ (below_drew HB3.out)
  refine wp_region_held (S := (fun W : World => W.cell? ⟨w.heap.size, 0, none⟩ = some (.bool ask) ∧ W.cell? ⟨w.heap.size, 1, none⟩ = some (.slice A vs.length c) ∧ W.cell? ⟨w.heap.size, 2, none⟩ = some (.slice B ps.length c') ∧ W.cell? ⟨w.heap.size, 3, none⟩ = some (.slice D fs.length d) ∧ W.cell? ⟨w.heap.size, 4, none⟩ = some (.int .i64 lim) ∧ W.cell? ⟨w.heap.size, 5, none⟩ = some (.int .i64 off))) (by kernel_rfl) ?_
  change wpAnyH _ _ _ _ _ _ _ _ w3.drew
  first | refine tkU 0 hS ?_ | (refine tkV 0 (v := ?_) hS ?_ ?_; rotate_left 1; · (intro w0 hSw; (try dsimp only at hSw); go_split_ands; go_simp; try with_reducible rfl)) | fail
  try simp only [Act.put, pL]
  first | refine tkU 2 hS ?_ | (refine tkV 2 (v := ?_) hS ?_ ?_; rotate_left 1; · (intro w0 hSw; (try dsimp only at hSw); go_split_ands; go_simp; try with_reducible rfl)) | fail
  try simp only [Act.put, pL]
  refine wpAnyH_ready (rs := [1]) (by kernel_rfl) (by simp) ?_
  refine AllReadyH.cons rfl (fun K hK => ?_) AllReadyH.nil
  go_simp
  refine (CI.out _ (below_drew HB3.out)).mono ?_
  rintro e w4 ⟨b1, rfl, hi1, hb⟩
  have HB4 := Aside0.mk (below_then (below_drew HB3.out) (below_drew HB3.out).size hb)
  have HI1 := Aside0.mk hi1; clear hi1; have HE1 := Aside0.mk ((HE1.out.move (fun g _ hg => (below_drew (Below.refl w3.heap.size w3)).block g hg)).move (fun g _ hg => hb.block g hg)); have HE2 := Aside0.mk ((HE2.out.move (fun g _ hg => (below_drew (Below.refl w3.heap.size w3)).block g hg)).move (fun g _ hg => hb.block g hg))
  clear hb hS
  have hS := HS.out _ HB4.out
  refine hK.out _ _ hS (fun _ => ?_)
  clear hK K
  try simp only [Act.put, pL]
  refine wpAnyH_ready (rs := [3]) (by kernel_rfl) (by simp) ?_
  refine AllReadyH.cons rfl (fun K hK => ?_) AllReadyH.nil
  go_simp
  refine (CJ.out _ HB4.out).mono ?_
  rintro e w5 ⟨b2, rfl, hi2, hb⟩
  have HB5 := Aside0.mk (below_then HB4.out HB4.out.size hb)
  obtain rfl := both_are HI1.out hi2; clear hi2; have HE1 := Aside0.mk (HE1.out.move (fun g _ hg => hb.block g hg)); have HE2 := Aside0.mk (HE2.out.move (fun g _ hg => hb.block g hg))
  clear hb hS
  have hS := HS.out _ HB5.out
  refine hK.out _ _ hS (fun _ => ?_)
  clear hK K
  try simp only [Act.put, pL]
  first | refine tkU 4 hS ?_ | (refine tkV 4 (v := ?_) hS ?_ ?_; rotate_left 1; · (intro w0 hSw; (try dsimp only at hSw); go_split_ands; go_simp; try with_reducible rfl)) | fail
  try simp only [Act.put, pL]
  first | refine tkU 5 hS ?_ | (refine tkV 5 (v := ?_) hS ?_ ?_; rotate_left 1; · (intro w0 hSw; (try dsimp only at hSw); go_split_ands; go_simp; try with_reducible rfl)) | fail
  try simp only [Act.put, pL]
  first | refine tkU 6 hS ?_ | (refine tkV 6 (v := ?_) hS ?_ ?_; rotate_left 1; · (intro w0 hSw; (try dsimp only at hSw); go_split_ands; go_simp; try with_reducible rfl)) | fail
  try simp only [Act.put, pL]
  first | refine tkU 7 hS ?_ | (refine tkV 7 (v := ?_) hS ?_ ?_; rotate_left 1; · (intro w0 hSw; (try dsimp only at hSw); go_split_ands; go_simp; try with_reducible rfl)) | fail
  try simp only [Act.put, pL]
  first | refine tkU 8 hS ?_ | (refine tkV 8 (v := ?_) hS ?_ ?_; rotate_left 1; · (intro w0 hSw; (try dsimp only at hSw); go_split_ands; go_simp; try with_reducible rfl)) | fail
  try simp only [Act.put, pL]
  first | refine tkU 9 hS ?_ | (refine tkV 9 (v := ?_) hS ?_ ?_; rotate_left 1; · (intro w0 hSw; (try dsimp only at hSw); go_split_ands; go_simp; try with_reducible rfl)) | fail
  try simp only [Act.put, pL]
  first | refine tkU 10 hS ?_ | (refine tkV 10 (v := ?_) hS ?_ ?_; rotate_left 1; · (intro w0 hSw; (try dsimp only at hSw); go_split_ands; go_simp; try with_reducible rfl)) | fail
  try simp only [Act.put, pL]
  first | refine tkU 11 hS ?_ | (refine tkV 11 (v := ?_) hS ?_ ?_; rotate_left 1; · (intro w0 hSw; (try dsimp only at hSw); go_split_ands; go_simp; try with_reducible rfl)) | fail
  try simp only [Act.put, pL]
  refine wpAnyH_done (by kernel_rfl) ?_ _
  clear hS
  go_wp2_with fail
  go_loopw [5] (fun u wr => ∃ i : Nat, i ≤ l.length ∧ u = .int .i64 i ∧ Aside0 (Below wb.heap.size wb wr) ∧ Aside0 (TsAt wr anyB E1 l) ∧ Aside0 (TsAt wr anyB E2 l)) (fun u _ => l.length - (intOf u).toNat)
  case atStart => exact ⟨0, by omega, rfl, HB5, HE1, HE2⟩
  case round =>
    clear HE1 HE2
    obtain ⟨w6, rfl⟩ : ∃ x, x = wr := ⟨wr, rfl⟩
    obtain ⟨i, hi, rfl, HB6, HE1, HE2⟩ := hrel
    by_cases hin : i < l.length
    · obtain ⟨t, ht⟩ : ∃ t, l[i]? = some t := ⟨l[i]'hin, List.getElem?_eq_getElem _⟩
      obtain ⟨x1, y1, rfl, -, hc1⟩ := HE1.out.2 (by omega)
      obtain ⟨x2, y2, rfl, -, hc2⟩ := HE2.out.2 (by omega)
      have a1 := hc1 i t ht
      have a2 := hc2 i t ht
      have HSS : Aside0 (∀ W, Below w6.heap.size w6 W → (fun W : World => W.cell? ⟨x1, y1 + i, none⟩ = some (.string t) ∧ W.cell? ⟨x2, y2 + i, none⟩ = some (.string t)) W) := ⟨fun W h => ⟨pw_cell_below h a1, pw_cell_below h a2⟩⟩
      have g0 : (0 : Int) ≤ (i : Int) := by omega
      have g1 : (i : Int) < (l.length : Int) := by omega
      clear hc1 hc2 a1 a2 ht
      go_upto_region 9 with (fail)
      have hS : (fun W : World => W.cell? ⟨x1, y1 + i, none⟩ = some (.string t) ∧ W.cell? ⟨x2, y2 + i, none⟩ = some (.string t)) w6.drew := HSS.out _ (below_drew (Below.refl w6.heap.size w6))
      refine wp_region_held (S := (fun W : World => W.cell? ⟨x1, y1 + i, none⟩ = some (.string t) ∧ W.cell? ⟨x2, y2 + i, none⟩ = some (.string t))) (by kernel_rfl) ?_
      change wpAnyH _ _ _ _ _ _ _ _ w6.drew
      first | refine tkU 0 hS ?_ | (refine tkV 0 (v := ?_) hS ?_ ?_; rotate_left 1; · (intro w0 hSw; (try dsimp only at hSw); go_split_ands; go_simp; try with_reducible rfl)) | fail
      try simp only [Act.put, pL]
      first | refine tkU 1 hS ?_ | (refine tkV 1 (v := ?_) hS ?_ ?_; rotate_left 1; · (intro w0 hSw; (try dsimp only at hSw); go_split_ands; go_simp; try with_reducible rfl)) | fail
      try simp only [Act.put, pL]
      first | refine tkU 2 hS ?_ | (refine tkV 2 (v := ?_) hS ?_ ?_; rotate_left 1; · (intro w0 hSw; (try dsimp only at hSw); go_split_ands; go_simp; try with_reducible rfl)) | fail
      try simp only [Act.put, pL]
      first | refine tkU 3 hS ?_ | (refine tkV 3 (v := ?_) hS ?_ ?_; rotate_left 1; · (intro w0 hSw; (try dsimp only at hSw); go_split_ands; go_simp; try with_reducible rfl)) | fail
      try simp only [Act.put, pL]
      first | refine tkU 4 hS ?_ | (refine tkV 4 (v := ?_) hS ?_ ?_; rotate_left 1; · (intro w0 hSw; (try dsimp only at hSw); go_split_ands; go_simp; try with_reducible rfl)) | fail
      try simp only [Act.put, pL]
      first | refine tkU 5 hS ?_ | (refine tkV 5 (v := ?_) hS ?_ ?_; rotate_left 1; · (intro w0 hSw; (try dsimp only at hSw); go_split_ands; go_simp; try with_reducible rfl)) | fail
      try simp only [Act.put, pL]
      first | refine tkU 6 hS ?_ | (refine tkV 6 (v := ?_) hS ?_ ?_; rotate_left 1; · (intro w0 hSw; (try dsimp only at hSw); go_split_ands; go_simp; try with_reducible rfl)) | fail
      try simp only [Act.put, pL]
      first | refine tkU 7 hS ?_ | (refine tkV 7 (v := ?_) hS ?_ ?_; rotate_left 1; · (intro w0 hSw; (try dsimp only at hSw); go_split_ands; go_simp; try with_reducible rfl)) | fail
      try simp only [Act.put, pL]
      first | refine tkU 8 hS ?_ | (refine tkV 8 (v := ?_) hS ?_ ?_; rotate_left 1; · (intro w0 hSw; (try dsimp only at hSw); go_split_ands; go_simp; try with_reducible rfl)) | fail
      try simp only [Act.put, pL]
      refine wpAnyH_done (by kernel_rfl) ?_ _
      have HBd := Aside0.mk (below_drew HB6.out)
      have HE1d := Aside0.mk (HE1.out.move (fun g _ hg => (below_drew (Below.refl w6.heap.size w6)).block g hg))
      have HE2d := Aside0.mk (HE2.out.move (fun g _ hg => (below_drew (Below.refl w6.heap.size w6)).block g hg))
      clear hS
      go_wp2_with fail
      go_roundw
      case rel => exact ⟨i + 1, by omega, by go_num, HBd, HE1d, HE2d⟩
      case measure => simp [intOf]; omega
    · go_wp2_with (go_at_call 28; (with_reducible refine (CK.out _ HB6.out).mono ?_); rintro e w7 ⟨rfl, hb⟩; have HB7 := Aside0.mk (below_then HB6.out HB6.out.size hb); clear hb)
      go_ret
      exact ⟨rfl, w_then HB.out HB7.out⟩
set_option maxRecDepth 100000 in
set_option maxHeartbeats 8000000 in
theorem may_wide (q : Qry) (w wb : World) (A : Option Addr) (c : Nat) (B : Option Addr) (c' : Nat) (D : Option Addr) (d : Nat) (hB : Below w.heap.size w wb)
    (hhw : w.alloc (.cells #[.bool q.ask, .slice A q.vars.length c, .slice B q.pats.length c', .slice D q.fils.length d, .int .i64 q.lim, .int .i64 q.off] 68) = wb)
    (hN : wb.heap[w.heap.size]? = some (.cells #[.bool q.ask, .slice A q.vars.length c, .slice B q.pats.length c', .slice D q.fils.length d, .int .i64 q.lim, .int .i64 q.off] 68 (0, 0)))
    (hnn : ¬ Nar q)
    (hw : Calls Tryd.prog 47 #[.agg #[.bool q.ask, .slice A q.vars.length c, .slice B q.pats.length c', .slice D q.fils.length d, .int .i64 q.lim, .int .i64 q.off]] wb (WideP wb q)) :
    Calls Tryd.prog 21 #[.agg #[.bool q.ask, .slice A q.vars.length c, .slice B q.pats.length c', .slice D q.fils.length d, .int .i64 q.lim, .int .i64 q.off]] w fun e w' => e = .returned (.bool true) ∧ Below w.heap.size w w' := by
  have hw2 : Calls Tryd.prog 47 #[.agg #[.bool q.ask, .slice A q.vars.length c, .slice B q.pats.length c', .slice D q.fils.length d, .int .i64 q.lim, .int .i64 q.off]] wb fun e w' => e = .returned (.bool true) ∧ Below wb.heap.size wb w' := hw.mono fun e w' h => by
    obtain ⟨b, h1, h2, h3⟩ := h
    cases b with
    | false => exact absurd (h2 rfl) hnn
    | true => exact ⟨h1, h3⟩
  obtain ⟨ask, vs, ps, fs, lim, off⟩ := q
  simp only at hhw hN hw2 ⊢
  have CW := Aside0.mk hw2
  have HHW := Aside0.mk hhw
  have HB := Aside0.mk hB
  have q0 := blk_cell hN 0
  have q1 := blk_cell hN 1
  have q2 := blk_cell hN 2
  have q3 := blk_cell hN 3
  have q4 := blk_cell hN 4
  have q5 := blk_cell hN 5
  simp at q0 q1 q2 q3 q4 q5
  clear hw hw2 hhw hB hN hnn
  go_enter Tryd.func21, Tryd.ntmps21
  go_upto_region 1 with (fail)
  rw [HHW.out]
  go_wp2_with (go_at_call 47; (with_reducible refine CW.out.mono ?_); rintro e w1 ⟨rfl, hb⟩; have HB1 := Aside0.mk hb; clear hb)
  go_ret
  exact ⟨rfl, w_then HB.out HB1.out⟩
theorem may_law (q : Qry) (cs : List Value) (w : World) (hq : QryAt w q cs) (hsm : ∀ p ∈ q.pats, EdSm 140737488351232 p.s ∧ EdSm 140737488351232 p.o) (hT : Tabs w) : Calls Tryd.prog 21 #[.agg cs.toArray] w fun e w' => e = .returned (.bool true) ∧ Below w.heap.size w w' := by
  obtain ⟨A, c, B, c', D, d, rfl, hc, hpl, hfl, hts, hps, hfs⟩ := hq
  obtain ⟨wb, hwb, HB, HN⟩ := boxQ w q.ask A q.vars.length c B q.pats.length c' D q.fils.length d q.lim q.off
  have hts2 := hts.move (w1 := wb) (fun g _ hg => HB.out.block g hg)
  have hps2 := hps.below HB.out (fun a cs h => h.below HB.out)
  have hfs2 := hfs.below HB.out (fun a cs h => h)
  have hw := wide_any big_c q wb A c B c' D d hc hts2 hps2 hfs2 hpl hfl hsm
  by_cases hn : Nar q
  · exact may_go q hn w wb A c B c' D d hc hts2 hps2 hfs2 (hT.below HB.out) HB.out hwb.symm HN.out hw
  · exact may_wide q w wb A c B c' D d HB.out hwb.symm HN.out hn hw
end Go.Proofs.YtbaegfjoionojaaDoor.Qy
