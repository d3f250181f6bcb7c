/- The walk of query.count where a path may be here; query.IsPath. -/
import Derived.Test.YtbaegfjoionojaaDoorQyV
set_option linter.unusedSimpArgs false
set_option linter.unusedVariables false
namespace Go.Proofs.YtbaegfjoionojaaDoor.Qy
open Go Go.RowKit Go.Proofs.YtbaegfjoionojaaDoor.Tm Go.Proofs.YtbaegfjoionojaaDoorW.PrintWords

set_option maxRecDepth 100000 in
set_option maxHeartbeats 8000000 in
theorem cnt_1 (t : ByteArray) (ks : List Pth) (d : Nat) (hd100 : d ≤ 100) (hd : d ≤ 5) (hk : (ks.length : Int) = kidsN 1) (hi : iriB t = true) (hbig : ∀ q ∈ ks, Tame q) (ih : ∀ q ∈ ks, MayC 65 q) (w : World) (ok : Nat → Prop) (k9 : Int) (t9 : ByteArray) (A : Option Addr) (n9 c : Nat) (B : Option Addr) (m9 e : Nat)
    (hp : PathAt w ok (.mk 1 t [] ks) [.int .i64 k9, .string t9, .slice A n9 c, .slice B m9 e]) (hT : Tabs w) :
    Calls Tryd.prog 65 #[.agg #[.int .i64 k9, .string t9, .slice A n9 c, .slice B m9 e], .int .i64 (d : Int)] w fun e w' => e = .returned (.int .i64 (mayZ (.mk 1 t [] ks) d)) ∧ Below w.heap.size w w' := by
  obtain ⟨A1, c1, B1, d1, e0, -, -, hkl, hts, hks⟩ := path_cells hp
  simp only [List.cons.injEq, Value.int.injEq, Value.string.injEq, Value.slice.injEq, true_and, and_true, List.length_nil] at e0
  obtain ⟨e1, e2, ⟨e3, e4, e5⟩, e6, e7, e8⟩ := e0
  have e1 := e1.symm
  have e2 := e2.symm
  subst e1 e2 e3 e4 e5 e6 e7 e8
  obtain ⟨wb, hwb, HB, HN⟩ := boxP w 1 t A 0 c B ks.length e
  have HHW : Aside0 (w.alloc (.cells #[.int .i64 1, .string t, .slice A 0 c, .slice B ks.length e] 25) = wb) := ⟨hwb.symm⟩
  have HTb := Aside0.mk (hT.below HB.out)
  have HTS : Aside0 (TsAt wb ok A []) := ⟨hts.move (fun g _ hg => HB.out.block g hg)⟩
  have HKS := Aside0.mk (KidsAt.move (w := w) (w1 := wb) (fun g _ hg => HB.out.block g hg) ks hks)
  have HS : Aside0 (∀ W, Below wb.heap.size wb W → (fun W : World => W.cell? ⟨w.heap.size, 0, none⟩ = some (.int .i64 1) ∧ W.cell? ⟨w.heap.size, 1, none⟩ = some (.string t) ∧ W.cell? ⟨w.heap.size, 2, none⟩ = some (.slice A 0 c) ∧ W.cell? ⟨w.heap.size, 3, none⟩ = some (.slice B ks.length e)) W) := ⟨fun W h => ⟨(blk_cell (blk_below HN.out h) 0).trans rfl, (blk_cell (blk_below HN.out h) 1).trans rfl, (blk_cell (blk_below HN.out h) 2).trans rfl, (blk_cell (blk_below HN.out h) 3).trans rfl⟩⟩
  clear hwb hp hts hks hT
  have HHERE : Aside0 (hereB 1 t [] ks.length d = true) := ⟨by unfold hereB; simp [hk, hd, hi]⟩
  have HIH := Aside0.mk ih
  have HBIG := Aside0.mk hbig
  have hkl : ks.length ≤ 2 := by unfold kidsN at hk; repeat' split at hk <;> omega
  have g5 : decide ((5 : Int) < (d : Int)) = false := by rw [decide_eq_false_iff_not]; omega
  have hz := iri_size hi
  have ht := iri_pos hi
  have CK : Aside0 (∀ W, Calls Tryd.prog 93 #[.int .i64 1] W fun e w' => e = .returned (.int .i64 (ks.length : Int)) ∧ w' = W) := ⟨fun W => by
    have := kids_any 1 W
    rwa [← hk] at this⟩
  obtain ⟨t1, t2, t3⟩ := toList_ne ht
  have CI : Aside0 (∀ W, Below wb.heap.size wb W → Calls Tryd.prog 94 #[.string t] W fun e w' => e = .returned (.bool false) ∧ Below W.heap.size W w') := ⟨fun W hW => by
    have := notIRI_any t W (by omega) (HTb.out.below hW)
    rwa [hi] at this⟩
  have CC : Aside0 (∀ W, Below wb.heap.size wb W → Calls Tryd.prog 95 #[.slice A 0 c, .func (.func 94) #[] #[]] W fun e w' => e = .returned (.bool false) ∧ Below W.heap.size W w') := ⟨fun W hW => by
    have := contains_any A c [] ok W (HTS.out.move (fun g _ hg => hW.block g hg)) (fun t h => by cases h) (HTb.out.below hW)
    rwa [show (!([] : List ByteArray).all iriB) = false from rfl] at this⟩
  clear hk hi ht hbig ih
  go_enter Tryd.func65, Tryd.ntmps65
  go_upto_region 1 with (fail)
  rw [HHW.out]
  have q0 := blk_cell HN.out 0
  have q1 := blk_cell HN.out 1
  have q2 := blk_cell HN.out 2
  have q3 := blk_cell HN.out 3
  simp at q0 q1 q2 q3
  go_upto_region 3 with (fail)
  clear q0 q1 q2 q3
  have hS : (fun W : World => W.cell? ⟨w.heap.size, 0, none⟩ = some (.int .i64 1) ∧ W.cell? ⟨w.heap.size, 1, none⟩ = some (.string t) ∧ W.cell? ⟨w.heap.size, 2, none⟩ = some (.slice A 0 c) ∧ W.cell? ⟨w.heap.size, 3, none⟩ = some (.slice B ks.length e)) wb.drew := HS.out _ (below_drew (Below.refl wb.heap.size wb))
  refine wp_region_held (S := (fun W : World => W.cell? ⟨w.heap.size, 0, none⟩ = some (.int .i64 1) ∧ W.cell? ⟨w.heap.size, 1, none⟩ = some (.string t) ∧ W.cell? ⟨w.heap.size, 2, none⟩ = some (.slice A 0 c) ∧ W.cell? ⟨w.heap.size, 3, none⟩ = some (.slice B ks.length e))) (by kernel_rfl) ?_
  change wpAnyH _ _ _ _ _ _ _ _ wb.drew
  first | refine tkU 0 hS ?_ | (refine tkV 0 (v := ?_) hS ?_ ?_; rotate_left 1; · (intro w0 hSw; (try dsimp only at hSw); go_split_ands; go_simp; try with_reducible rfl)) | fail
  try simp only [Act.put, pL]
  first | refine tkU 1 hS ?_ | (refine tkV 1 (v := ?_) hS ?_ ?_; rotate_left 1; · (intro w0 hSw; (try dsimp only at hSw); go_split_ands; go_simp; try with_reducible rfl)) | fail
  try simp only [Act.put, pL]
  first | refine tkU 2 hS ?_ | (refine tkV 2 (v := ?_) hS ?_ ?_; rotate_left 1; · (intro w0 hSw; (try dsimp only at hSw); go_split_ands; go_simp; try with_reducible rfl)) | fail
  try simp only [Act.put, pL]
  first | refine tkU 3 hS ?_ | (refine tkV 3 (v := ?_) hS ?_ ?_; rotate_left 1; · (intro w0 hSw; (try dsimp only at hSw); go_split_ands; go_simp; try with_reducible rfl)) | fail
  try simp only [Act.put, pL]
  first | refine tkU 4 hS ?_ | (refine tkV 4 (v := ?_) hS ?_ ?_; rotate_left 1; · (intro w0 hSw; (try dsimp only at hSw); go_split_ands; go_simp; try with_reducible rfl)) | fail
  try simp only [Act.put, pL]
  first | refine tkU 5 hS ?_ | (refine tkV 5 (v := ?_) hS ?_ ?_; rotate_left 1; · (intro w0 hSw; (try dsimp only at hSw); go_split_ands; go_simp; try with_reducible rfl)) | fail
  try simp only [Act.put, pL]
  first | refine tkU 6 hS ?_ | (refine tkV 6 (v := ?_) hS ?_ ?_; rotate_left 1; · (intro w0 hSw; (try dsimp only at hSw); go_split_ands; go_simp; try with_reducible rfl)) | fail
  try simp only [Act.put, pL]
  first | refine tkU 7 hS ?_ | (refine tkV 7 (v := ?_) hS ?_ ?_; rotate_left 1; · (intro w0 hSw; (try dsimp only at hSw); go_split_ands; go_simp; try with_reducible rfl)) | fail
  try simp only [Act.put, pL]
  refine wpAnyH_ready (rs := [8]) (by kernel_rfl) (by simp) ?_
  refine AllReadyH.cons rfl (fun K hK => ?_) AllReadyH.nil
  go_simp
  refine (CK.out _).mono ?_
  rintro e w1 ⟨rfl, rfl⟩
  refine hK.out _ _ hS (fun _ => ?_)
  clear hK K
  try simp only [Act.put, pL]
  first | refine tkU 9 hS ?_ | (refine tkV 9 (v := ?_) hS ?_ ?_; rotate_left 1; · (intro w0 hSw; (try dsimp only at hSw); go_split_ands; go_simp; try with_reducible rfl)) | fail
  try simp only [Act.put, pL]
  first | refine tkU 10 hS ?_ | (refine tkV 10 (v := ?_) hS ?_ ?_; rotate_left 1; · (intro w0 hSw; (try dsimp only at hSw); go_split_ands; go_simp; try with_reducible rfl)) | fail
  try simp only [Act.put, pL]
  first | refine tkU 11 hS ?_ | (refine tkV 11 (v := ?_) hS ?_ ?_; rotate_left 1; · (intro w0 hSw; (try dsimp only at hSw); go_split_ands; go_simp; try with_reducible rfl)) | fail
  try simp only [Act.put, pL]
  first | refine tkU 12 hS ?_ | (refine tkV 12 (v := ?_) hS ?_ ?_; rotate_left 1; · (intro w0 hSw; (try dsimp only at hSw); go_split_ands; go_simp; try with_reducible rfl)) | fail
  try simp only [Act.put, pL]
  first | refine tkU 13 hS ?_ | (refine tkV 13 (v := ?_) hS ?_ ?_; rotate_left 1; · (intro w0 hSw; (try dsimp only at hSw); go_split_ands; go_simp; try with_reducible rfl)) | fail
  try simp only [Act.put, pL]
  first | refine tkU 14 hS ?_ | (refine tkV 14 (v := ?_) hS ?_ ?_; rotate_left 1; · (intro w0 hSw; (try dsimp only at hSw); go_split_ands; go_simp; try with_reducible rfl)) | fail
  try simp only [Act.put, pL]
  first | refine tkU 15 hS ?_ | (refine tkV 15 (v := ?_) hS ?_ ?_; rotate_left 1; · (intro w0 hSw; (try dsimp only at hSw); go_split_ands; go_simp; try with_reducible rfl)) | fail
  try simp only [Act.put, pL]
  first | refine tkU 16 hS ?_ | (refine tkV 16 (v := ?_) hS ?_ ?_; rotate_left 1; · (intro w0 hSw; (try dsimp only at hSw); go_split_ands; go_simp; try with_reducible rfl)) | fail
  try simp only [Act.put, pL]
  first | refine tkU 17 hS ?_ | (refine tkV 17 (v := ?_) hS ?_ ?_; rotate_left 1; · (intro w0 hSw; (try dsimp only at hSw); go_split_ands; go_simp; try with_reducible rfl)) | fail
  try simp only [Act.put, pL]
  first | refine tkU 18 hS ?_ | (refine tkV 18 (v := ?_) hS ?_ ?_; rotate_left 1; · (intro w0 hSw; (try dsimp only at hSw); go_split_ands; go_simp; try with_reducible rfl)) | fail
  try simp only [Act.put, pL]
  first | refine tkU 19 hS ?_ | (refine tkV 19 (v := ?_) hS ?_ ?_; rotate_left 1; · (intro w0 hSw; (try dsimp only at hSw); go_split_ands; go_simp; try with_reducible rfl)) | fail
  try simp only [Act.put, pL]
  first | refine tkU 20 hS ?_ | (refine tkV 20 (v := ?_) hS ?_ ?_; rotate_left 1; · (intro w0 hSw; (try dsimp only at hSw); go_split_ands; go_simp; try with_reducible rfl)) | fail
  try simp only [Act.put, pL]
  first | refine tkU 21 hS ?_ | (refine tkV 21 (v := ?_) hS ?_ ?_; rotate_left 1; · (intro w0 hSw; (try dsimp only at hSw); go_split_ands; go_simp; try with_reducible rfl)) | fail
  try simp only [Act.put, pL]
  first | refine tkU 22 hS ?_ | (refine tkV 22 (v := ?_) hS ?_ ?_; rotate_left 1; · (intro w0 hSw; (try dsimp only at hSw); go_split_ands; go_simp; try with_reducible rfl)) | fail
  try simp only [Act.put, pL]
  first | refine tkU 23 hS ?_ | (refine tkV 23 (v := ?_) hS ?_ ?_; rotate_left 1; · (intro w0 hSw; (try dsimp only at hSw); go_split_ands; go_simp; try with_reducible rfl)) | fail
  try simp only [Act.put, pL]
  first | refine tkU 24 hS ?_ | (refine tkV 24 (v := ?_) hS ?_ ?_; rotate_left 1; · (intro w0 hSw; (try dsimp only at hSw); go_split_ands; go_simp; try with_reducible rfl)) | fail
  try simp only [Act.put, pL]
  first | refine tkU 25 hS ?_ | (refine tkV 25 (v := ?_) hS ?_ ?_; rotate_left 1; · (intro w0 hSw; (try dsimp only at hSw); go_split_ands; go_simp; try with_reducible rfl)) | fail
  try simp only [Act.put, pL]
  first | refine tkU 26 hS ?_ | (refine tkV 26 (v := ?_) hS ?_ ?_; rotate_left 1; · (intro w0 hSw; (try dsimp only at hSw); go_split_ands; go_simp; try with_reducible rfl)) | fail
  try simp only [Act.put, pL]
  first | refine tkU 27 hS ?_ | (refine tkV 27 (v := ?_) hS ?_ ?_; rotate_left 1; · (intro w0 hSw; (try dsimp only at hSw); go_split_ands; go_simp; try with_reducible rfl)) | fail
  try simp only [Act.put, pL]
  first | refine tkU 28 hS ?_ | (refine tkV 28 (v := ?_) hS ?_ ?_; rotate_left 1; · (intro w0 hSw; (try dsimp only at hSw); go_split_ands; go_simp; try with_reducible rfl)) | fail
  try simp only [Act.put, pL]
  first | refine tkU 29 hS ?_ | (refine tkV 29 (v := ?_) hS ?_ ?_; rotate_left 1; · (intro w0 hSw; (try dsimp only at hSw); go_split_ands; go_simp; try with_reducible rfl)) | fail
  try simp only [Act.put, pL]
  first | refine tkU 30 hS ?_ | (refine tkV 30 (v := ?_) hS ?_ ?_; rotate_left 1; · (intro w0 hSw; (try dsimp only at hSw); go_split_ands; go_simp; try with_reducible rfl)) | fail
  try simp only [Act.put, pL]
  first | refine tkU 31 hS ?_ | (refine tkV 31 (v := ?_) hS ?_ ?_; rotate_left 1; · (intro w0 hSw; (try dsimp only at hSw); go_split_ands; go_simp; try with_reducible rfl)) | fail
  try simp only [Act.put, pL]
  refine wpAnyH_ready (rs := [32]) (by kernel_rfl) (by simp) ?_
  refine AllReadyH.cons rfl (fun K hK => ?_) AllReadyH.nil
  go_simp
  refine (CI.out _ (below_drew (Below.refl wb.heap.size wb))).mono ?_
  rintro e w1 ⟨rfl, hb⟩
  have HB1 := Aside0.mk (below_then (below_drew (Below.refl wb.heap.size wb)) (Nat.le_refl _) hb)
  clear hb hS
  have hS : (fun W : World => W.cell? ⟨w.heap.size, 0, none⟩ = some (.int .i64 1) ∧ W.cell? ⟨w.heap.size, 1, none⟩ = some (.string t) ∧ W.cell? ⟨w.heap.size, 2, none⟩ = some (.slice A 0 c) ∧ W.cell? ⟨w.heap.size, 3, none⟩ = some (.slice B ks.length e)) w1 := HS.out _ HB1.out
  refine hK.out _ _ hS (fun _ => ?_)
  clear hK K
  try simp only [Act.put, pL]
  first | refine tkU 33 hS ?_ | (refine tkV 33 (v := ?_) hS ?_ ?_; rotate_left 1; · (intro w0 hSw; (try dsimp only at hSw); go_split_ands; go_simp; try with_reducible rfl)) | fail
  try simp only [Act.put, pL]
  first | refine tkU 34 hS ?_ | (refine tkV 34 (v := ?_) hS ?_ ?_; rotate_left 1; · (intro w0 hSw; (try dsimp only at hSw); go_split_ands; go_simp; try with_reducible rfl)) | fail
  try simp only [Act.put, pL]
  first | refine tkU 35 hS ?_ | (refine tkV 35 (v := ?_) hS ?_ ?_; rotate_left 1; · (intro w0 hSw; (try dsimp only at hSw); go_split_ands; go_simp; try with_reducible rfl)) | fail
  try simp only [Act.put, pL]
  first | refine tkU 36 hS ?_ | (refine tkV 36 (v := ?_) hS ?_ ?_; rotate_left 1; · (intro w0 hSw; (try dsimp only at hSw); go_split_ands; go_simp; try with_reducible rfl)) | fail
  try simp only [Act.put, pL]
  first | refine tkU 37 hS ?_ | (refine tkV 37 (v := ?_) hS ?_ ?_; rotate_left 1; · (intro w0 hSw; (try dsimp only at hSw); go_split_ands; go_simp; try with_reducible rfl)) | fail
  try simp only [Act.put, pL]
  refine wpAnyH_ready (rs := [38]) (by kernel_rfl) (by simp) ?_
  refine AllReadyH.cons rfl (fun K hK => ?_) AllReadyH.nil
  go_simp
  refine (CC.out _ HB1.out).mono ?_
  rintro e w2 ⟨rfl, hb⟩
  have HB2 := Aside0.mk (below_then HB1.out HB1.out.size hb)
  clear hb hS
  have hS : (fun W : World => W.cell? ⟨w.heap.size, 0, none⟩ = some (.int .i64 1) ∧ W.cell? ⟨w.heap.size, 1, none⟩ = some (.string t) ∧ W.cell? ⟨w.heap.size, 2, none⟩ = some (.slice A 0 c) ∧ W.cell? ⟨w.heap.size, 3, none⟩ = some (.slice B ks.length e)) w2 := HS.out _ HB2.out
  refine hK.out _ _ hS (fun _ => ?_)
  clear hK K
  try simp only [Act.put, pL]
  first | refine tkU 39 hS ?_ | (refine tkV 39 (v := ?_) hS ?_ ?_; rotate_left 1; · (intro w0 hSw; (try dsimp only at hSw); go_split_ands; go_simp; try with_reducible rfl)) | fail
  try simp only [Act.put, pL]
  refine wpAnyH_done (by kernel_rfl) ?_ _
  obtain ⟨q0, q1, q2, q3⟩ := hS
  have HP0 : Aside0 (pre (d + 1) ks 0 = 0) := ⟨rfl⟩
  go_wp2_with fail
  go_loopw [7, 69] (fun x y wr => ∃ i : Nat, i ≤ ks.length ∧ y = .int .i64 i ∧ x = .int .i64 ((1 + pre (d + 1) ks i : Nat) : Int) ∧ Aside0 (Below wb.heap.size wb wr) ∧ Aside0 (∀ (j : Nat) (q : Pth), j < i → ks[j]? = some q → countP q (d + 1) ≠ none)) (fun _ y _ => ks.length - (intOf y).toNat)
  case atStart => exact ⟨0, by omega, rfl, by rw [HP0.out]; rfl, HB2, ⟨fun j q h => by omega⟩⟩
  case round =>
    clear q0 q1 q2 q3
    obtain ⟨wv, rfl⟩ : ∃ x, x = wr := ⟨wr, rfl⟩
    obtain ⟨i, hi, rfl, rfl, HBv, HA1⟩ := hrel
    have hpl := pre_63 (d + 1) ks i hi
    obtain ⟨P, hP⟩ : ∃ P, pre (d + 1) ks i = P := ⟨_, rfl⟩
    rw [hP] at hpl ⊢
    have HP := Aside0.mk hP
    clear hP
    have hpc : ((1 + P : Nat) : Int) = 1 + (P : Int) := by omega
    rw [hpc]
    by_cases hin : i < ks.length
    · obtain ⟨q, hq⟩ : ∃ q, ks[i]? = some q := ⟨ks[i]'hin, List.getElem?_eq_getElem _⟩
      obtain ⟨kb, ko, cs', hB, -, hcell, hpq⟩ := KidsAt.get _ (KidsAt.move (w := wb) (w1 := wv) (fun g _ hg => HBv.out.block g hg) ks HKS.out) i q hq
      have hcq := HIH.out q (List.mem_of_getElem? hq) (d + 1) (by omega) (HBIG.out q (List.mem_of_getElem? hq))
      have hst := pre_step (d := d + 1) hq
      rw [HP.out] at hst
      have HX : Aside0 (ks[i]? = some q) := ⟨hq⟩
      cases hco : countP q (d + 1) with
      | none =>
        have hz : mayZ q (d + 1) = -1 := by unfold mayZ; rw [hco]
        rw [hz] at hcq
        have HE : Aside0 (mayZ (.mk 1 t [] ks) d = -1) := ⟨may_kid (countL_none hq hco)⟩
        clear hst
        obtain ⟨k', t', ts', ks'⟩ := q
        obtain ⟨A', cc', B', d', rfl, -⟩ := path_cells hpq
        subst hB
        have a0 := hcell 0 _ rfl
        have a1 := hcell 1 _ rfl
        have a2 := hcell 2 _ rfl
        have a3 := hcell 3 _ rfl
        simp at a0 a1 a2 a3
        have CC : Aside0 (∀ W, Below wv.heap.size wv W → Calls Tryd.prog 65 #[.agg #[.int .i64 k', .string t', .slice A' ts'.length cc', .slice B' ks'.length d'], .int .i64 ((d : Int) + 1)] W fun e w' => e = .returned (.int .i64 (-1)) ∧ Below W.heap.size W w') := ⟨fun W hW => by
          have := hcq W ok k' t' A' ts'.length cc' B' ks'.length d' (hpq.below hW) ((HTb.out.below HBv.out).below hW)
          rwa [show (((d + 1 : Nat)) : Int) = (d : Int) + 1 by omega] at this⟩
        have g0 : (0 : Int) ≤ (i : Int) := by omega
        have g1 : (i : Int) < (ks.length : Int) := by omega
        clear hq hcell hpq hcq hz hco
        go_upto_region 9 with (fail)
        obtain ⟨wy, hwy, HY, HNy⟩ := boxP wv k' t' A' ts'.length cc' B' ks'.length d'
        rw [← hwy]
        have z0 := blk_cell HNy.out 0
        have z1 := blk_cell HNy.out 1
        have z2 := blk_cell HNy.out 2
        have z3 := blk_cell HNy.out 3
        simp at z0 z1 z2 z3
        clear hwy a0 a1 a2 a3
        go_wp2_with (go_at_call 65; (with_reducible refine (CC.out _ HY.out).mono ?_); rintro e w4 ⟨rfl, hb⟩; have HB4 := Aside0.mk (below_then (below_then HBv.out HBv.out.size HY.out) (Nat.le_trans HBv.out.size HY.out.size) hb); clear hb)
        go_ret
        exact ⟨ret_z HE.out.symm, HB.out.trans (HB4.out.mono HB.out.size)⟩
      | some r =>
        have hz : mayZ q (d + 1) = (r : Int) := by unfold mayZ; rw [hco]
        rw [hz] at hcq
        have hcn : cnt (d + 1) q = r := by unfold cnt; rw [hco]; rfl
        rw [hcn] at hst
        have HST := Aside0.mk hst
        have h63 := count_63 hco
        have HCO : Aside0 (countP q (d + 1) ≠ none) := ⟨by rw [hco]; simp⟩
        have HA2 : Aside0 (∀ (j : Nat) (q : Pth), j < i + 1 → ks[j]? = some q → countP q (d + 1) ≠ none) := ⟨fun j q2 hj hq2 => by
          by_cases h : j = i
          · subst h
            obtain rfl := Option.some.inj (HX.out.symm.trans hq2)
            exact HCO.out
          · exact HA1.out j q2 (by omega) hq2⟩
        clear hst hcn
        obtain ⟨k', t', ts', ks'⟩ := q
        obtain ⟨A', cc', B', d', rfl, -⟩ := path_cells hpq
        subst hB
        have a0 := hcell 0 _ rfl
        have a1 := hcell 1 _ rfl
        have a2 := hcell 2 _ rfl
        have a3 := hcell 3 _ rfl
        simp at a0 a1 a2 a3
        have CC : Aside0 (∀ W, Below wv.heap.size wv W → Calls Tryd.prog 65 #[.agg #[.int .i64 k', .string t', .slice A' ts'.length cc', .slice B' ks'.length d'], .int .i64 ((d : Int) + 1)] W fun e w' => e = .returned (.int .i64 (r : Int)) ∧ Below W.heap.size W w') := ⟨fun W hW => by
          have := hcq W ok k' t' A' ts'.length cc' B' ks'.length d' (hpq.below hW) ((HTb.out.below HBv.out).below hW)
          rwa [show (((d + 1 : Nat)) : Int) = (d : Int) + 1 by omega] at this⟩
        have g0 : (0 : Int) ≤ (i : Int) := by omega
        have g1 : (i : Int) < (ks.length : Int) := by omega
        clear hq hcell hpq hcq hz hco
        go_upto_region 9 with (fail)
        obtain ⟨wy, hwy, HY, HNy⟩ := boxP wv k' t' A' ts'.length cc' B' ks'.length d'
        rw [← hwy]
        have z0 := blk_cell HNy.out 0
        have z1 := blk_cell HNy.out 1
        have z2 := blk_cell HNy.out 2
        have z3 := blk_cell HNy.out 3
        simp at z0 z1 z2 z3
        clear hwy a0 a1 a2 a3
        go_wp2_with (go_at_call 65; (with_reducible refine (CC.out _ HY.out).mono ?_); rintro e w4 ⟨rfl, hb⟩; have HB4 := Aside0.mk (below_then (below_then HBv.out HBv.out.size HY.out) (Nat.le_trans HBv.out.size HY.out.size) hb); clear hb)
        go_roundw
        case rel => exact ⟨i + 1, by omega, by go_num, by rw [HST.out]; congr 1; first | omega | (push_cast; omega), HB4, HA2⟩
        case measure => simp [intOf]; omega
    · have HE : Aside0 (mayZ (.mk 1 t [] ks) d = 1 + (P : Int)) := ⟨by
        rw [may_yes HHERE.out (countL_of (fun j q hq => HA1.out j q (by have := (List.getElem?_eq_some_iff.1 hq).1; omega) hq)), ← HP.out]
        unfold pre
        rw [show i = ks.length by omega, List.take_length]⟩
      go_wp2_with fail
      go_ret
      exact ⟨ret_z HE.out.symm, HB.out.trans (HBv.out.mono HB.out.size)⟩
set_option maxRecDepth 100000 in
set_option maxHeartbeats 8000000 in
theorem cnt_k (k : Int) (ks : List Pth) (d : Nat) (hd100 : d ≤ 100) (hd : d ≤ 5) (hk : (ks.length : Int) = kidsN k) (hk1 : k ≠ 1) (hk8 : k ≠ 8) (hbig : ∀ q ∈ ks, Tame q) (ih : ∀ q ∈ ks, MayC 65 q) (w : World) (ok : Nat → Prop) (k9 : Int) (t9 : ByteArray) (A : Option Addr) (n9 c : Nat) (B : Option Addr) (m9 e : Nat)
    (hp : PathAt w ok (.mk k ⟨#[]⟩ [] ks) [.int .i64 k9, .string t9, .slice A n9 c, .slice B m9 e]) (hT : Tabs w) :
    Calls Tryd.prog 65 #[.agg #[.int .i64 k9, .string t9, .slice A n9 c, .slice B m9 e], .int .i64 (d : Int)] w fun e w' => e = .returned (.int .i64 (mayZ (.mk k ⟨#[]⟩ [] ks) d)) ∧ Below w.heap.size w w' := by
  obtain ⟨A1, c1, B1, d1, e0, -, -, hkl, hts, hks⟩ := path_cells hp
  simp only [List.cons.injEq, Value.int.injEq, Value.string.injEq, Value.slice.injEq, true_and, and_true, List.length_nil] at e0
  obtain ⟨e1, e2, ⟨e3, e4, e5⟩, e6, e7, e8⟩ := e0
  have e1 := e1.symm
  have e2 := e2.symm
  subst e1 e2 e3 e4 e5 e6 e7 e8
  obtain ⟨wb, hwb, HB, HN⟩ := boxP w k ⟨#[]⟩ A 0 c B ks.length e
  have HHW : Aside0 (w.alloc (.cells #[.int .i64 k, .string ⟨#[]⟩, .slice A 0 c, .slice B ks.length e] 25) = wb) := ⟨hwb.symm⟩
  have HTb := Aside0.mk (hT.below HB.out)
  have HTS : Aside0 (TsAt wb ok A []) := ⟨hts.move (fun g _ hg => HB.out.block g hg)⟩
  have HKS := Aside0.mk (KidsAt.move (w := w) (w1 := wb) (fun g _ hg => HB.out.block g hg) ks hks)
  have HS : Aside0 (∀ W, Below wb.heap.size wb W → (fun W : World => W.cell? ⟨w.heap.size, 0, none⟩ = some (.int .i64 k) ∧ W.cell? ⟨w.heap.size, 1, none⟩ = some (.string ⟨#[]⟩) ∧ W.cell? ⟨w.heap.size, 2, none⟩ = some (.slice A 0 c) ∧ W.cell? ⟨w.heap.size, 3, none⟩ = some (.slice B ks.length e)) W) := ⟨fun W h => ⟨(blk_cell (blk_below HN.out h) 0).trans rfl, (blk_cell (blk_below HN.out h) 1).trans rfl, (blk_cell (blk_below HN.out h) 2).trans rfl, (blk_cell (blk_below HN.out h) 3).trans rfl⟩⟩
  clear hwb hp hts hks hT
  have HHERE : Aside0 (hereB k ⟨#[]⟩ [] ks.length d = true) := ⟨by unfold hereB; rw [if_neg hk1, if_neg hk8]; simp [hk, hd]; rfl⟩
  have HIH := Aside0.mk ih
  have HBIG := Aside0.mk hbig
  have hkl : ks.length ≤ 2 := by unfold kidsN at hk; repeat' split at hk <;> omega
  have g5 : decide ((5 : Int) < (d : Int)) = false := by rw [decide_eq_false_iff_not]; omega
  have m1 : (k != 1) = true := by rw [bne_iff_ne]; exact hk1
  have m1e : (k == 1) = false := by rw [beq_eq_false_iff_ne]; exact hk1
  have m8 : (k != 8) = true := by rw [bne_iff_ne]; exact hk8
  have m8e : (k == 8) = false := by rw [beq_eq_false_iff_ne]; exact hk8
  have CK : Aside0 (∀ W, Calls Tryd.prog 93 #[.int .i64 k] W fun e w' => e = .returned (.int .i64 (ks.length : Int)) ∧ w' = W) := ⟨fun W => by
    have := kids_any k W
    rwa [← hk] at this⟩
  have CC : Aside0 (∀ W, Below wb.heap.size wb W → Calls Tryd.prog 95 #[.slice A 0 c, .func (.func 94) #[] #[]] W fun e w' => e = .returned (.bool false) ∧ Below W.heap.size W w') := ⟨fun W hW => by
    have := contains_any A c [] ok W (HTS.out.move (fun g _ hg => hW.block g hg)) (fun t h => by cases h) (HTb.out.below hW)
    rwa [show (!([] : List ByteArray).all iriB) = false from rfl] at this⟩
  clear hk hk1 hk8 hbig ih
  go_enter Tryd.func65, Tryd.ntmps65
  go_upto_region 1 with (fail)
  rw [HHW.out]
  have q0 := blk_cell HN.out 0
  have q1 := blk_cell HN.out 1
  have q2 := blk_cell HN.out 2
  have q3 := blk_cell HN.out 3
  simp at q0 q1 q2 q3
  go_upto_region 3 with (fail)
  clear q0 q1 q2 q3
  have hS : (fun W : World => W.cell? ⟨w.heap.size, 0, none⟩ = some (.int .i64 k) ∧ W.cell? ⟨w.heap.size, 1, none⟩ = some (.string ⟨#[]⟩) ∧ W.cell? ⟨w.heap.size, 2, none⟩ = some (.slice A 0 c) ∧ W.cell? ⟨w.heap.size, 3, none⟩ = some (.slice B ks.length e)) wb.drew := HS.out _ (below_drew (Below.refl wb.heap.size wb))
  refine wp_region_held (S := (fun W : World => W.cell? ⟨w.heap.size, 0, none⟩ = some (.int .i64 k) ∧ W.cell? ⟨w.heap.size, 1, none⟩ = some (.string ⟨#[]⟩) ∧ W.cell? ⟨w.heap.size, 2, none⟩ = some (.slice A 0 c) ∧ W.cell? ⟨w.heap.size, 3, none⟩ = some (.slice B ks.length e))) (by kernel_rfl) ?_
  change wpAnyH _ _ _ _ _ _ _ _ wb.drew
  first | refine tkU 0 hS ?_ | (refine tkV 0 (v := ?_) hS ?_ ?_; rotate_left 1; · (intro w0 hSw; (try dsimp only at hSw); go_split_ands; go_simp; try with_reducible rfl)) | fail
  try simp only [Act.put, pL]
  first | refine tkU 1 hS ?_ | (refine tkV 1 (v := ?_) hS ?_ ?_; rotate_left 1; · (intro w0 hSw; (try dsimp only at hSw); go_split_ands; go_simp; try with_reducible rfl)) | fail
  try simp only [Act.put, pL]
  first | refine tkU 2 hS ?_ | (refine tkV 2 (v := ?_) hS ?_ ?_; rotate_left 1; · (intro w0 hSw; (try dsimp only at hSw); go_split_ands; go_simp; try with_reducible rfl)) | fail
  try simp only [Act.put, pL]
  first | refine tkU 3 hS ?_ | (refine tkV 3 (v := ?_) hS ?_ ?_; rotate_left 1; · (intro w0 hSw; (try dsimp only at hSw); go_split_ands; go_simp; try with_reducible rfl)) | fail
  try simp only [Act.put, pL]
  first | refine tkU 4 hS ?_ | (refine tkV 4 (v := ?_) hS ?_ ?_; rotate_left 1; · (intro w0 hSw; (try dsimp only at hSw); go_split_ands; go_simp; try with_reducible rfl)) | fail
  try simp only [Act.put, pL]
  first | refine tkU 5 hS ?_ | (refine tkV 5 (v := ?_) hS ?_ ?_; rotate_left 1; · (intro w0 hSw; (try dsimp only at hSw); go_split_ands; go_simp; try with_reducible rfl)) | fail
  try simp only [Act.put, pL]
  first | refine tkU 6 hS ?_ | (refine tkV 6 (v := ?_) hS ?_ ?_; rotate_left 1; · (intro w0 hSw; (try dsimp only at hSw); go_split_ands; go_simp; try with_reducible rfl)) | fail
  try simp only [Act.put, pL]
  first | refine tkU 7 hS ?_ | (refine tkV 7 (v := ?_) hS ?_ ?_; rotate_left 1; · (intro w0 hSw; (try dsimp only at hSw); go_split_ands; go_simp; try with_reducible rfl)) | fail
  try simp only [Act.put, pL]
  refine wpAnyH_ready (rs := [8]) (by kernel_rfl) (by simp) ?_
  refine AllReadyH.cons rfl (fun K hK => ?_) AllReadyH.nil
  go_simp
  refine (CK.out _).mono ?_
  rintro e w1 ⟨rfl, rfl⟩
  refine hK.out _ _ hS (fun _ => ?_)
  clear hK K
  try simp only [Act.put, pL]
  first | refine tkU 9 hS ?_ | (refine tkV 9 (v := ?_) hS ?_ ?_; rotate_left 1; · (intro w0 hSw; (try dsimp only at hSw); go_split_ands; go_simp; try with_reducible rfl)) | fail
  try simp only [Act.put, pL]
  first | refine tkU 10 hS ?_ | (refine tkV 10 (v := ?_) hS ?_ ?_; rotate_left 1; · (intro w0 hSw; (try dsimp only at hSw); go_split_ands; go_simp; try with_reducible rfl)) | fail
  try simp only [Act.put, pL]
  first | refine tkU 11 hS ?_ | (refine tkV 11 (v := ?_) hS ?_ ?_; rotate_left 1; · (intro w0 hSw; (try dsimp only at hSw); go_split_ands; go_simp; try with_reducible rfl)) | fail
  try simp only [Act.put, pL]
  first | refine tkU 12 hS ?_ | (refine tkV 12 (v := ?_) hS ?_ ?_; rotate_left 1; · (intro w0 hSw; (try dsimp only at hSw); go_split_ands; go_simp; try with_reducible rfl)) | fail
  try simp only [Act.put, pL]
  first | refine tkU 13 hS ?_ | (refine tkV 13 (v := ?_) hS ?_ ?_; rotate_left 1; · (intro w0 hSw; (try dsimp only at hSw); go_split_ands; go_simp; try with_reducible rfl)) | fail
  try simp only [Act.put, pL]
  first | refine tkU 14 hS ?_ | (refine tkV 14 (v := ?_) hS ?_ ?_; rotate_left 1; · (intro w0 hSw; (try dsimp only at hSw); go_split_ands; go_simp; try with_reducible rfl)) | fail
  try simp only [Act.put, pL]
  first | refine tkU 15 hS ?_ | (refine tkV 15 (v := ?_) hS ?_ ?_; rotate_left 1; · (intro w0 hSw; (try dsimp only at hSw); go_split_ands; go_simp; try with_reducible rfl)) | fail
  try simp only [Act.put, pL]
  first | refine tkU 16 hS ?_ | (refine tkV 16 (v := ?_) hS ?_ ?_; rotate_left 1; · (intro w0 hSw; (try dsimp only at hSw); go_split_ands; go_simp; try with_reducible rfl)) | fail
  try simp only [Act.put, pL]
  first | refine tkU 17 hS ?_ | (refine tkV 17 (v := ?_) hS ?_ ?_; rotate_left 1; · (intro w0 hSw; (try dsimp only at hSw); go_split_ands; go_simp; try with_reducible rfl)) | fail
  try simp only [Act.put, pL]
  first | refine tkU 18 hS ?_ | (refine tkV 18 (v := ?_) hS ?_ ?_; rotate_left 1; · (intro w0 hSw; (try dsimp only at hSw); go_split_ands; go_simp; try with_reducible rfl)) | fail
  try simp only [Act.put, pL]
  first | refine tkU 19 hS ?_ | (refine tkV 19 (v := ?_) hS ?_ ?_; rotate_left 1; · (intro w0 hSw; (try dsimp only at hSw); go_split_ands; go_simp; try with_reducible rfl)) | fail
  try simp only [Act.put, pL]
  first | refine tkU 20 hS ?_ | (refine tkV 20 (v := ?_) hS ?_ ?_; rotate_left 1; · (intro w0 hSw; (try dsimp only at hSw); go_split_ands; go_simp; try with_reducible rfl)) | fail
  try simp only [Act.put, pL]
  first | refine tkU 21 hS ?_ | (refine tkV 21 (v := ?_) hS ?_ ?_; rotate_left 1; · (intro w0 hSw; (try dsimp only at hSw); go_split_ands; go_simp; try with_reducible rfl)) | fail
  try simp only [Act.put, pL]
  first | refine tkU 22 hS ?_ | (refine tkV 22 (v := ?_) hS ?_ ?_; rotate_left 1; · (intro w0 hSw; (try dsimp only at hSw); go_split_ands; go_simp; try with_reducible rfl)) | fail
  try simp only [Act.put, pL]
  first | refine tkU 23 hS ?_ | (refine tkV 23 (v := ?_) hS ?_ ?_; rotate_left 1; · (intro w0 hSw; (try dsimp only at hSw); go_split_ands; go_simp; try with_reducible rfl)) | fail
  try simp only [Act.put, pL]
  first | refine tkU 24 hS ?_ | (refine tkV 24 (v := ?_) hS ?_ ?_; rotate_left 1; · (intro w0 hSw; (try dsimp only at hSw); go_split_ands; go_simp; try with_reducible rfl)) | fail
  try simp only [Act.put, pL]
  first | refine tkU 25 hS ?_ | (refine tkV 25 (v := ?_) hS ?_ ?_; rotate_left 1; · (intro w0 hSw; (try dsimp only at hSw); go_split_ands; go_simp; try with_reducible rfl)) | fail
  try simp only [Act.put, pL]
  first | refine tkU 26 hS ?_ | (refine tkV 26 (v := ?_) hS ?_ ?_; rotate_left 1; · (intro w0 hSw; (try dsimp only at hSw); go_split_ands; go_simp; try with_reducible rfl)) | fail
  try simp only [Act.put, pL]
  first | refine tkU 27 hS ?_ | (refine tkV 27 (v := ?_) hS ?_ ?_; rotate_left 1; · (intro w0 hSw; (try dsimp only at hSw); go_split_ands; go_simp; try with_reducible rfl)) | fail
  try simp only [Act.put, pL]
  first | refine tkU 28 hS ?_ | (refine tkV 28 (v := ?_) hS ?_ ?_; rotate_left 1; · (intro w0 hSw; (try dsimp only at hSw); go_split_ands; go_simp; try with_reducible rfl)) | fail
  try simp only [Act.put, pL]
  first | refine tkU 29 hS ?_ | (refine tkV 29 (v := ?_) hS ?_ ?_; rotate_left 1; · (intro w0 hSw; (try dsimp only at hSw); go_split_ands; go_simp; try with_reducible rfl)) | fail
  try simp only [Act.put, pL]
  first | refine tkU 30 hS ?_ | (refine tkV 30 (v := ?_) hS ?_ ?_; rotate_left 1; · (intro w0 hSw; (try dsimp only at hSw); go_split_ands; go_simp; try with_reducible rfl)) | fail
  try simp only [Act.put, pL]
  first | refine tkU 31 hS ?_ | (refine tkV 31 (v := ?_) hS ?_ ?_; rotate_left 1; · (intro w0 hSw; (try dsimp only at hSw); go_split_ands; go_simp; try with_reducible rfl)) | fail
  try simp only [Act.put, pL]
  first | refine tkU 32 hS ?_ | (refine tkV 32 (v := ?_) hS ?_ ?_; rotate_left 1; · (intro w0 hSw; (try dsimp only at hSw); go_split_ands; go_simp; try with_reducible rfl)) | fail
  try simp only [Act.put, pL]
  first | refine tkU 33 hS ?_ | (refine tkV 33 (v := ?_) hS ?_ ?_; rotate_left 1; · (intro w0 hSw; (try dsimp only at hSw); go_split_ands; go_simp; try with_reducible rfl)) | fail
  try simp only [Act.put, pL]
  first | refine tkU 34 hS ?_ | (refine tkV 34 (v := ?_) hS ?_ ?_; rotate_left 1; · (intro w0 hSw; (try dsimp only at hSw); go_split_ands; go_simp; try with_reducible rfl)) | fail
  try simp only [Act.put, pL]
  first | refine tkU 35 hS ?_ | (refine tkV 35 (v := ?_) hS ?_ ?_; rotate_left 1; · (intro w0 hSw; (try dsimp only at hSw); go_split_ands; go_simp; try with_reducible rfl)) | fail
  try simp only [Act.put, pL]
  first | refine tkU 36 hS ?_ | (refine tkV 36 (v := ?_) hS ?_ ?_; rotate_left 1; · (intro w0 hSw; (try dsimp only at hSw); go_split_ands; go_simp; try with_reducible rfl)) | fail
  try simp only [Act.put, pL]
  first | refine tkU 37 hS ?_ | (refine tkV 37 (v := ?_) hS ?_ ?_; rotate_left 1; · (intro w0 hSw; (try dsimp only at hSw); go_split_ands; go_simp; try with_reducible rfl)) | fail
  try simp only [Act.put, pL]
  refine wpAnyH_ready (rs := [38]) (by kernel_rfl) (by simp) ?_
  refine AllReadyH.cons rfl (fun K hK => ?_) AllReadyH.nil
  go_simp
  refine (CC.out _ (below_drew (Below.refl wb.heap.size wb))).mono ?_
  rintro e w2 ⟨rfl, hb⟩
  have HB2 := Aside0.mk (below_then (below_drew (Below.refl wb.heap.size wb)) (Nat.le_refl _) hb)
  clear hb hS
  have hS : (fun W : World => W.cell? ⟨w.heap.size, 0, none⟩ = some (.int .i64 k) ∧ W.cell? ⟨w.heap.size, 1, none⟩ = some (.string ⟨#[]⟩) ∧ W.cell? ⟨w.heap.size, 2, none⟩ = some (.slice A 0 c) ∧ W.cell? ⟨w.heap.size, 3, none⟩ = some (.slice B ks.length e)) w2 := HS.out _ HB2.out
  refine hK.out _ _ hS (fun _ => ?_)
  clear hK K
  try simp only [Act.put, pL]
  first | refine tkU 39 hS ?_ | (refine tkV 39 (v := ?_) hS ?_ ?_; rotate_left 1; · (intro w0 hSw; (try dsimp only at hSw); go_split_ands; go_simp; try with_reducible rfl)) | fail
  try simp only [Act.put, pL]
  refine wpAnyH_done (by kernel_rfl) ?_ _
  obtain ⟨q0, q1, q2, q3⟩ := hS
  have HP0 : Aside0 (pre (d + 1) ks 0 = 0) := ⟨rfl⟩
  go_wp2_with fail
  go_loopw [7, 69] (fun x y wr => ∃ i : Nat, i ≤ ks.length ∧ y = .int .i64 i ∧ x = .int .i64 ((1 + pre (d + 1) ks i : Nat) : Int) ∧ Aside0 (Below wb.heap.size wb wr) ∧ Aside0 (∀ (j : Nat) (q : Pth), j < i → ks[j]? = some q → countP q (d + 1) ≠ none)) (fun _ y _ => ks.length - (intOf y).toNat)
  case atStart => exact ⟨0, by omega, rfl, by rw [HP0.out]; rfl, HB2, ⟨fun j q h => by omega⟩⟩
  case round =>
    clear q0 q1 q2 q3
    obtain ⟨wv, rfl⟩ : ∃ x, x = wr := ⟨wr, rfl⟩
    obtain ⟨i, hi, rfl, rfl, HBv, HA1⟩ := hrel
    have hpl := pre_63 (d + 1) ks i hi
    obtain ⟨P, hP⟩ : ∃ P, pre (d + 1) ks i = P := ⟨_, rfl⟩
    rw [hP] at hpl ⊢
    have HP := Aside0.mk hP
    clear hP
    have hpc : ((1 + P : Nat) : Int) = 1 + (P : Int) := by omega
    rw [hpc]
    by_cases hin : i < ks.length
    · obtain ⟨q, hq⟩ : ∃ q, ks[i]? = some q := ⟨ks[i]'hin, List.getElem?_eq_getElem _⟩
      obtain ⟨kb, ko, cs', hB, -, hcell, hpq⟩ := KidsAt.get _ (KidsAt.move (w := wb) (w1 := wv) (fun g _ hg => HBv.out.block g hg) ks HKS.out) i q hq
      have hcq := HIH.out q (List.mem_of_getElem? hq) (d + 1) (by omega) (HBIG.out q (List.mem_of_getElem? hq))
      have hst := pre_step (d := d + 1) hq
      rw [HP.out] at hst
      have HX : Aside0 (ks[i]? = some q) := ⟨hq⟩
      cases hco : countP q (d + 1) with
      | none =>
        have hz : mayZ q (d + 1) = -1 := by unfold mayZ; rw [hco]
        rw [hz] at hcq
        have HE : Aside0 (mayZ (.mk k ⟨#[]⟩ [] ks) d = -1) := ⟨may_kid (countL_none hq hco)⟩
        clear hst
        obtain ⟨k', t', ts', ks'⟩ := q
        obtain ⟨A', cc', B', d', rfl, -⟩ := path_cells hpq
        subst hB
        have a0 := hcell 0 _ rfl
        have a1 := hcell 1 _ rfl
        have a2 := hcell 2 _ rfl
        have a3 := hcell 3 _ rfl
        simp at a0 a1 a2 a3
        have CC : Aside0 (∀ W, Below wv.heap.size wv W → Calls Tryd.prog 65 #[.agg #[.int .i64 k', .string t', .slice A' ts'.length cc', .slice B' ks'.length d'], .int .i64 ((d : Int) + 1)] W fun e w' => e = .returned (.int .i64 (-1)) ∧ Below W.heap.size W w') := ⟨fun W hW => by
          have := hcq W ok k' t' A' ts'.length cc' B' ks'.length d' (hpq.below hW) ((HTb.out.below HBv.out).below hW)
          rwa [show (((d + 1 : Nat)) : Int) = (d : Int) + 1 by omega] at this⟩
        have g0 : (0 : Int) ≤ (i : Int) := by omega
        have g1 : (i : Int) < (ks.length : Int) := by omega
        clear hq hcell hpq hcq hz hco
        go_upto_region 9 with (fail)
        obtain ⟨wy, hwy, HY, HNy⟩ := boxP wv k' t' A' ts'.length cc' B' ks'.length d'
        rw [← hwy]
        have z0 := blk_cell HNy.out 0
        have z1 := blk_cell HNy.out 1
        have z2 := blk_cell HNy.out 2
        have z3 := blk_cell HNy.out 3
        simp at z0 z1 z2 z3
        clear hwy a0 a1 a2 a3
        go_wp2_with (go_at_call 65; (with_reducible refine (CC.out _ HY.out).mono ?_); rintro e w4 ⟨rfl, hb⟩; have HB4 := Aside0.mk (below_then (below_then HBv.out HBv.out.size HY.out) (Nat.le_trans HBv.out.size HY.out.size) hb); clear hb)
        go_ret
        exact ⟨ret_z HE.out.symm, HB.out.trans (HB4.out.mono HB.out.size)⟩
      | some r =>
        have hz : mayZ q (d + 1) = (r : Int) := by unfold mayZ; rw [hco]
        rw [hz] at hcq
        have hcn : cnt (d + 1) q = r := by unfold cnt; rw [hco]; rfl
        rw [hcn] at hst
        have HST := Aside0.mk hst
        have h63 := count_63 hco
        have HCO : Aside0 (countP q (d + 1) ≠ none) := ⟨by rw [hco]; simp⟩
        have HA2 : Aside0 (∀ (j : Nat) (q : Pth), j < i + 1 → ks[j]? = some q → countP q (d + 1) ≠ none) := ⟨fun j q2 hj hq2 => by
          by_cases h : j = i
          · subst h
            obtain rfl := Option.some.inj (HX.out.symm.trans hq2)
            exact HCO.out
          · exact HA1.out j q2 (by omega) hq2⟩
        clear hst hcn
        obtain ⟨k', t', ts', ks'⟩ := q
        obtain ⟨A', cc', B', d', rfl, -⟩ := path_cells hpq
        subst hB
        have a0 := hcell 0 _ rfl
        have a1 := hcell 1 _ rfl
        have a2 := hcell 2 _ rfl
        have a3 := hcell 3 _ rfl
        simp at a0 a1 a2 a3
        have CC : Aside0 (∀ W, Below wv.heap.size wv W → Calls Tryd.prog 65 #[.agg #[.int .i64 k', .string t', .slice A' ts'.length cc', .slice B' ks'.length d'], .int .i64 ((d : Int) + 1)] W fun e w' => e = .returned (.int .i64 (r : Int)) ∧ Below W.heap.size W w') := ⟨fun W hW => by
          have := hcq W ok k' t' A' ts'.length cc' B' ks'.length d' (hpq.below hW) ((HTb.out.below HBv.out).below hW)
          rwa [show (((d + 1 : Nat)) : Int) = (d : Int) + 1 by omega] at this⟩
        have g0 : (0 : Int) ≤ (i : Int) := by omega
        have g1 : (i : Int) < (ks.length : Int) := by omega
        clear hq hcell hpq hcq hz hco
        go_upto_region 9 with (fail)
        obtain ⟨wy, hwy, HY, HNy⟩ := boxP wv k' t' A' ts'.length cc' B' ks'.length d'
        rw [← hwy]
        have z0 := blk_cell HNy.out 0
        have z1 := blk_cell HNy.out 1
        have z2 := blk_cell HNy.out 2
        have z3 := blk_cell HNy.out 3
        simp at z0 z1 z2 z3
        clear hwy a0 a1 a2 a3
        go_wp2_with (go_at_call 65; (with_reducible refine (CC.out _ HY.out).mono ?_); rintro e w4 ⟨rfl, hb⟩; have HB4 := Aside0.mk (below_then (below_then HBv.out HBv.out.size HY.out) (Nat.le_trans HBv.out.size HY.out.size) hb); clear hb)
        go_roundw
        case rel => exact ⟨i + 1, by omega, by go_num, by rw [HST.out]; congr 1; first | omega | (push_cast; omega), HB4, HA2⟩
        case measure => simp [intOf]; omega
    · have HE : Aside0 (mayZ (.mk k ⟨#[]⟩ [] ks) d = 1 + (P : Int)) := ⟨by
        rw [may_yes HHERE.out (countL_of (fun j q hq => HA1.out j q (by have := (List.getElem?_eq_some_iff.1 hq).1; omega) hq)), ← HP.out]
        unfold pre
        rw [show i = ks.length by omega, List.take_length]⟩
      go_wp2_with fail
      go_ret
      exact ⟨ret_z HE.out.symm, HB.out.trans (HBv.out.mono HB.out.size)⟩
set_option maxRecDepth 100000 in
set_option maxHeartbeats 8000000 in
theorem cnt_8 (ts : List ByteArray) (ks : List Pth) (d : Nat) (hd100 : d ≤ 100) (hd : d ≤ 5) (hk : (ks.length : Int) = kidsN 8) (hn : 0 < ts.length) (hn4 : ts.length ≤ 4) (hz : ∀ x ∈ ts, x.size ≤ 1000) (hi : ts.all iriB = true) (hbig : ∀ q ∈ ks, Tame q) (ih : ∀ q ∈ ks, MayC 65 q) (w : World) (ok : Nat → Prop) (k9 : Int) (t9 : ByteArray) (A : Option Addr) (n9 c : Nat) (B : Option Addr) (m9 e : Nat)
    (hp : PathAt w ok (.mk 8 ⟨#[]⟩ ts ks) [.int .i64 k9, .string t9, .slice A n9 c, .slice B m9 e]) (hT : Tabs w) :
    Calls Tryd.prog 65 #[.agg #[.int .i64 k9, .string t9, .slice A n9 c, .slice B m9 e], .int .i64 (d : Int)] w fun e w' => e = .returned (.int .i64 (mayZ (.mk 8 ⟨#[]⟩ ts ks) d)) ∧ Below w.heap.size w w' := by
  obtain ⟨A1, c1, B1, d1, e0, -, -, hkl, hts, hks⟩ := path_cells hp
  simp only [List.cons.injEq, Value.int.injEq, Value.string.injEq, Value.slice.injEq, true_and, and_true, List.length_nil] at e0
  obtain ⟨e1, e2, ⟨e3, e4, e5⟩, e6, e7, e8⟩ := e0
  have e1 := e1.symm
  have e2 := e2.symm
  subst e1 e2 e3 e4 e5 e6 e7 e8
  obtain ⟨wb, hwb, HB, HN⟩ := boxP w 8 ⟨#[]⟩ A ts.length c B ks.length e
  have HHW : Aside0 (w.alloc (.cells #[.int .i64 8, .string ⟨#[]⟩, .slice A ts.length c, .slice B ks.length e] 25) = wb) := ⟨hwb.symm⟩
  have HTb := Aside0.mk (hT.below HB.out)
  have HTS : Aside0 (TsAt wb ok A ts) := ⟨hts.move (fun g _ hg => HB.out.block g hg)⟩
  have HKS := Aside0.mk (KidsAt.move (w := w) (w1 := wb) (fun g _ hg => HB.out.block g hg) ks hks)
  have HS : Aside0 (∀ W, Below wb.heap.size wb W → (fun W : World => W.cell? ⟨w.heap.size, 0, none⟩ = some (.int .i64 8) ∧ W.cell? ⟨w.heap.size, 1, none⟩ = some (.string ⟨#[]⟩) ∧ W.cell? ⟨w.heap.size, 2, none⟩ = some (.slice A ts.length c) ∧ W.cell? ⟨w.heap.size, 3, none⟩ = some (.slice B ks.length e)) W) := ⟨fun W h => ⟨(blk_cell (blk_below HN.out h) 0).trans rfl, (blk_cell (blk_below HN.out h) 1).trans rfl, (blk_cell (blk_below HN.out h) 2).trans rfl, (blk_cell (blk_below HN.out h) 3).trans rfl⟩⟩
  clear hwb hp hts hks hT
  have HHERE : Aside0 (hereB 8 ⟨#[]⟩ ts ks.length d = true) := ⟨by unfold hereB; simp [hk, hd, hn4, show 1 ≤ ts.length from hn, hi]; rfl⟩
  have HIH := Aside0.mk ih
  have HBIG := Aside0.mk hbig
  have hkl : ks.length ≤ 2 := by unfold kidsN at hk; repeat' split at hk <;> omega
  have g5 : decide ((5 : Int) < (d : Int)) = false := by rw [decide_eq_false_iff_not]; omega
  have CK : Aside0 (∀ W, Calls Tryd.prog 93 #[.int .i64 8] W fun e w' => e = .returned (.int .i64 (ks.length : Int)) ∧ w' = W) := ⟨fun W => by
    have := kids_any 8 W
    rwa [← hk] at this⟩
  have n0 : decide ((0 : Int) < (ts.length : Int)) = true := by rw [decide_eq_true_eq]; omega
  have n0b : decide (0 < ts.length) = true := by rw [decide_eq_true_eq]; omega
  have n4 : decide ((4 : Int) < (ts.length : Int)) = false := by rw [decide_eq_false_iff_not]; omega
  have n4b : decide (4 < ts.length) = false := by rw [decide_eq_false_iff_not]; omega
  have CC : Aside0 (∀ W, Below wb.heap.size wb W → Calls Tryd.prog 95 #[.slice A ts.length c, .func (.func 94) #[] #[]] W fun e w' => e = .returned (.bool false) ∧ Below W.heap.size W w') := ⟨fun W hW => by
    have := contains_any A c ts ok W (HTS.out.move (fun g _ hg => hW.block g hg)) (fun x hx => by have := hz x hx; omega) (HTb.out.below hW)
    rwa [hi] at this⟩
  clear hk hi hn hz hn4 hbig ih
  go_enter Tryd.func65, Tryd.ntmps65
  go_upto_region 1 with (fail)
  rw [HHW.out]
  have q0 := blk_cell HN.out 0
  have q1 := blk_cell HN.out 1
  have q2 := blk_cell HN.out 2
  have q3 := blk_cell HN.out 3
  simp at q0 q1 q2 q3
  go_upto_region 3 with (fail)
  clear q0 q1 q2 q3
  have hS : (fun W : World => W.cell? ⟨w.heap.size, 0, none⟩ = some (.int .i64 8) ∧ W.cell? ⟨w.heap.size, 1, none⟩ = some (.string ⟨#[]⟩) ∧ W.cell? ⟨w.heap.size, 2, none⟩ = some (.slice A ts.length c) ∧ W.cell? ⟨w.heap.size, 3, none⟩ = some (.slice B ks.length e)) wb.drew := HS.out _ (below_drew (Below.refl wb.heap.size wb))
  refine wp_region_held (S := (fun W : World => W.cell? ⟨w.heap.size, 0, none⟩ = some (.int .i64 8) ∧ W.cell? ⟨w.heap.size, 1, none⟩ = some (.string ⟨#[]⟩) ∧ W.cell? ⟨w.heap.size, 2, none⟩ = some (.slice A ts.length c) ∧ W.cell? ⟨w.heap.size, 3, none⟩ = some (.slice B ks.length e))) (by kernel_rfl) ?_
  change wpAnyH _ _ _ _ _ _ _ _ wb.drew
  first | refine tkU 0 hS ?_ | (refine tkV 0 (v := ?_) hS ?_ ?_; rotate_left 1; · (intro w0 hSw; (try dsimp only at hSw); go_split_ands; go_simp; try with_reducible rfl)) | fail
  try simp only [Act.put, pL]
  first | refine tkU 1 hS ?_ | (refine tkV 1 (v := ?_) hS ?_ ?_; rotate_left 1; · (intro w0 hSw; (try dsimp only at hSw); go_split_ands; go_simp; try with_reducible rfl)) | fail
  try simp only [Act.put, pL]
  first | refine tkU 2 hS ?_ | (refine tkV 2 (v := ?_) hS ?_ ?_; rotate_left 1; · (intro w0 hSw; (try dsimp only at hSw); go_split_ands; go_simp; try with_reducible rfl)) | fail
  try simp only [Act.put, pL]
  first | refine tkU 3 hS ?_ | (refine tkV 3 (v := ?_) hS ?_ ?_; rotate_left 1; · (intro w0 hSw; (try dsimp only at hSw); go_split_ands; go_simp; try with_reducible rfl)) | fail
  try simp only [Act.put, pL]
  first | refine tkU 4 hS ?_ | (refine tkV 4 (v := ?_) hS ?_ ?_; rotate_left 1; · (intro w0 hSw; (try dsimp only at hSw); go_split_ands; go_simp; try with_reducible rfl)) | fail
  try simp only [Act.put, pL]
  first | refine tkU 5 hS ?_ | (refine tkV 5 (v := ?_) hS ?_ ?_; rotate_left 1; · (intro w0 hSw; (try dsimp only at hSw); go_split_ands; go_simp; try with_reducible rfl)) | fail
  try simp only [Act.put, pL]
  first | refine tkU 6 hS ?_ | (refine tkV 6 (v := ?_) hS ?_ ?_; rotate_left 1; · (intro w0 hSw; (try dsimp only at hSw); go_split_ands; go_simp; try with_reducible rfl)) | fail
  try simp only [Act.put, pL]
  first | refine tkU 7 hS ?_ | (refine tkV 7 (v := ?_) hS ?_ ?_; rotate_left 1; · (intro w0 hSw; (try dsimp only at hSw); go_split_ands; go_simp; try with_reducible rfl)) | fail
  try simp only [Act.put, pL]
  refine wpAnyH_ready (rs := [8]) (by kernel_rfl) (by simp) ?_
  refine AllReadyH.cons rfl (fun K hK => ?_) AllReadyH.nil
  go_simp
  refine (CK.out _).mono ?_
  rintro e w1 ⟨rfl, rfl⟩
  refine hK.out _ _ hS (fun _ => ?_)
  clear hK K
  try simp only [Act.put, pL]
  first | refine tkU 9 hS ?_ | (refine tkV 9 (v := ?_) hS ?_ ?_; rotate_left 1; · (intro w0 hSw; (try dsimp only at hSw); go_split_ands; go_simp; try with_reducible rfl)) | fail
  try simp only [Act.put, pL]
  first | refine tkU 10 hS ?_ | (refine tkV 10 (v := ?_) hS ?_ ?_; rotate_left 1; · (intro w0 hSw; (try dsimp only at hSw); go_split_ands; go_simp; try with_reducible rfl)) | fail
  try simp only [Act.put, pL]
  first | refine tkU 11 hS ?_ | (refine tkV 11 (v := ?_) hS ?_ ?_; rotate_left 1; · (intro w0 hSw; (try dsimp only at hSw); go_split_ands; go_simp; try with_reducible rfl)) | fail
  try simp only [Act.put, pL]
  first | refine tkU 12 hS ?_ | (refine tkV 12 (v := ?_) hS ?_ ?_; rotate_left 1; · (intro w0 hSw; (try dsimp only at hSw); go_split_ands; go_simp; try with_reducible rfl)) | fail
  try simp only [Act.put, pL]
  first | refine tkU 13 hS ?_ | (refine tkV 13 (v := ?_) hS ?_ ?_; rotate_left 1; · (intro w0 hSw; (try dsimp only at hSw); go_split_ands; go_simp; try with_reducible rfl)) | fail
  try simp only [Act.put, pL]
  first | refine tkU 14 hS ?_ | (refine tkV 14 (v := ?_) hS ?_ ?_; rotate_left 1; · (intro w0 hSw; (try dsimp only at hSw); go_split_ands; go_simp; try with_reducible rfl)) | fail
  try simp only [Act.put, pL]
  first | refine tkU 15 hS ?_ | (refine tkV 15 (v := ?_) hS ?_ ?_; rotate_left 1; · (intro w0 hSw; (try dsimp only at hSw); go_split_ands; go_simp; try with_reducible rfl)) | fail
  try simp only [Act.put, pL]
  first | refine tkU 16 hS ?_ | (refine tkV 16 (v := ?_) hS ?_ ?_; rotate_left 1; · (intro w0 hSw; (try dsimp only at hSw); go_split_ands; go_simp; try with_reducible rfl)) | fail
  try simp only [Act.put, pL]
  first | refine tkU 17 hS ?_ | (refine tkV 17 (v := ?_) hS ?_ ?_; rotate_left 1; · (intro w0 hSw; (try dsimp only at hSw); go_split_ands; go_simp; try with_reducible rfl)) | fail
  try simp only [Act.put, pL]
  first | refine tkU 18 hS ?_ | (refine tkV 18 (v := ?_) hS ?_ ?_; rotate_left 1; · (intro w0 hSw; (try dsimp only at hSw); go_split_ands; go_simp; try with_reducible rfl)) | fail
  try simp only [Act.put, pL]
  first | refine tkU 19 hS ?_ | (refine tkV 19 (v := ?_) hS ?_ ?_; rotate_left 1; · (intro w0 hSw; (try dsimp only at hSw); go_split_ands; go_simp; try with_reducible rfl)) | fail
  try simp only [Act.put, pL]
  first | refine tkU 20 hS ?_ | (refine tkV 20 (v := ?_) hS ?_ ?_; rotate_left 1; · (intro w0 hSw; (try dsimp only at hSw); go_split_ands; go_simp; try with_reducible rfl)) | fail
  try simp only [Act.put, pL]
  first | refine tkU 21 hS ?_ | (refine tkV 21 (v := ?_) hS ?_ ?_; rotate_left 1; · (intro w0 hSw; (try dsimp only at hSw); go_split_ands; go_simp; try with_reducible rfl)) | fail
  try simp only [Act.put, pL]
  first | refine tkU 22 hS ?_ | (refine tkV 22 (v := ?_) hS ?_ ?_; rotate_left 1; · (intro w0 hSw; (try dsimp only at hSw); go_split_ands; go_simp; try with_reducible rfl)) | fail
  try simp only [Act.put, pL]
  first | refine tkU 23 hS ?_ | (refine tkV 23 (v := ?_) hS ?_ ?_; rotate_left 1; · (intro w0 hSw; (try dsimp only at hSw); go_split_ands; go_simp; try with_reducible rfl)) | fail
  try simp only [Act.put, pL]
  first | refine tkU 24 hS ?_ | (refine tkV 24 (v := ?_) hS ?_ ?_; rotate_left 1; · (intro w0 hSw; (try dsimp only at hSw); go_split_ands; go_simp; try with_reducible rfl)) | fail
  try simp only [Act.put, pL]
  first | refine tkU 25 hS ?_ | (refine tkV 25 (v := ?_) hS ?_ ?_; rotate_left 1; · (intro w0 hSw; (try dsimp only at hSw); go_split_ands; go_simp; try with_reducible rfl)) | fail
  try simp only [Act.put, pL]
  first | refine tkU 26 hS ?_ | (refine tkV 26 (v := ?_) hS ?_ ?_; rotate_left 1; · (intro w0 hSw; (try dsimp only at hSw); go_split_ands; go_simp; try with_reducible rfl)) | fail
  try simp only [Act.put, pL]
  first | refine tkU 27 hS ?_ | (refine tkV 27 (v := ?_) hS ?_ ?_; rotate_left 1; · (intro w0 hSw; (try dsimp only at hSw); go_split_ands; go_simp; try with_reducible rfl)) | fail
  try simp only [Act.put, pL]
  first | refine tkU 28 hS ?_ | (refine tkV 28 (v := ?_) hS ?_ ?_; rotate_left 1; · (intro w0 hSw; (try dsimp only at hSw); go_split_ands; go_simp; try with_reducible rfl)) | fail
  try simp only [Act.put, pL]
  first | refine tkU 29 hS ?_ | (refine tkV 29 (v := ?_) hS ?_ ?_; rotate_left 1; · (intro w0 hSw; (try dsimp only at hSw); go_split_ands; go_simp; try with_reducible rfl)) | fail
  try simp only [Act.put, pL]
  first | refine tkU 30 hS ?_ | (refine tkV 30 (v := ?_) hS ?_ ?_; rotate_left 1; · (intro w0 hSw; (try dsimp only at hSw); go_split_ands; go_simp; try with_reducible rfl)) | fail
  try simp only [Act.put, pL]
  first | refine tkU 31 hS ?_ | (refine tkV 31 (v := ?_) hS ?_ ?_; rotate_left 1; · (intro w0 hSw; (try dsimp only at hSw); go_split_ands; go_simp; try with_reducible rfl)) | fail
  try simp only [Act.put, pL]
  first | refine tkU 32 hS ?_ | (refine tkV 32 (v := ?_) hS ?_ ?_; rotate_left 1; · (intro w0 hSw; (try dsimp only at hSw); go_split_ands; go_simp; try with_reducible rfl)) | fail
  try simp only [Act.put, pL]
  first | refine tkU 33 hS ?_ | (refine tkV 33 (v := ?_) hS ?_ ?_; rotate_left 1; · (intro w0 hSw; (try dsimp only at hSw); go_split_ands; go_simp; try with_reducible rfl)) | fail
  try simp only [Act.put, pL]
  first | refine tkU 34 hS ?_ | (refine tkV 34 (v := ?_) hS ?_ ?_; rotate_left 1; · (intro w0 hSw; (try dsimp only at hSw); go_split_ands; go_simp; try with_reducible rfl)) | fail
  try simp only [Act.put, pL]
  first | refine tkU 35 hS ?_ | (refine tkV 35 (v := ?_) hS ?_ ?_; rotate_left 1; · (intro w0 hSw; (try dsimp only at hSw); go_split_ands; go_simp; try with_reducible rfl)) | fail
  try simp only [Act.put, pL]
  first | refine tkU 36 hS ?_ | (refine tkV 36 (v := ?_) hS ?_ ?_; rotate_left 1; · (intro w0 hSw; (try dsimp only at hSw); go_split_ands; go_simp; try with_reducible rfl)) | fail
  try simp only [Act.put, pL]
  first | refine tkU 37 hS ?_ | (refine tkV 37 (v := ?_) hS ?_ ?_; rotate_left 1; · (intro w0 hSw; (try dsimp only at hSw); go_split_ands; go_simp; try with_reducible rfl)) | fail
  try simp only [Act.put, pL]
  refine wpAnyH_ready (rs := [38]) (by kernel_rfl) (by simp) ?_
  refine AllReadyH.cons rfl (fun K hK => ?_) AllReadyH.nil
  go_simp
  refine (CC.out _ (below_drew (Below.refl wb.heap.size wb))).mono ?_
  rintro e w2 ⟨rfl, hb⟩
  have HB2 := Aside0.mk (below_then (below_drew (Below.refl wb.heap.size wb)) (Nat.le_refl _) hb)
  clear hb hS
  have hS : (fun W : World => W.cell? ⟨w.heap.size, 0, none⟩ = some (.int .i64 8) ∧ W.cell? ⟨w.heap.size, 1, none⟩ = some (.string ⟨#[]⟩) ∧ W.cell? ⟨w.heap.size, 2, none⟩ = some (.slice A ts.length c) ∧ W.cell? ⟨w.heap.size, 3, none⟩ = some (.slice B ks.length e)) w2 := HS.out _ HB2.out
  refine hK.out _ _ hS (fun _ => ?_)
  clear hK K
  try simp only [Act.put, pL]
  first | refine tkU 39 hS ?_ | (refine tkV 39 (v := ?_) hS ?_ ?_; rotate_left 1; · (intro w0 hSw; (try dsimp only at hSw); go_split_ands; go_simp; try with_reducible rfl)) | fail
  try simp only [Act.put, pL]
  refine wpAnyH_done (by kernel_rfl) ?_ _
  obtain ⟨q0, q1, q2, q3⟩ := hS
  have HP0 : Aside0 (pre (d + 1) ks 0 = 0) := ⟨rfl⟩
  go_wp2_with fail
  go_loopw [7, 69] (fun x y wr => ∃ i : Nat, i ≤ ks.length ∧ y = .int .i64 i ∧ x = .int .i64 ((1 + pre (d + 1) ks i : Nat) : Int) ∧ Aside0 (Below wb.heap.size wb wr) ∧ Aside0 (∀ (j : Nat) (q : Pth), j < i → ks[j]? = some q → countP q (d + 1) ≠ none)) (fun _ y _ => ks.length - (intOf y).toNat)
  case atStart => exact ⟨0, by omega, rfl, by rw [HP0.out]; rfl, HB2, ⟨fun j q h => by omega⟩⟩
  case round =>
    clear q0 q1 q2 q3
    obtain ⟨wv, rfl⟩ : ∃ x, x = wr := ⟨wr, rfl⟩
    obtain ⟨i, hi, rfl, rfl, HBv, HA1⟩ := hrel
    have hpl := pre_63 (d + 1) ks i hi
    obtain ⟨P, hP⟩ : ∃ P, pre (d + 1) ks i = P := ⟨_, rfl⟩
    rw [hP] at hpl ⊢
    have HP := Aside0.mk hP
    clear hP
    have hpc : ((1 + P : Nat) : Int) = 1 + (P : Int) := by omega
    rw [hpc]
    by_cases hin : i < ks.length
    · obtain ⟨q, hq⟩ : ∃ q, ks[i]? = some q := ⟨ks[i]'hin, List.getElem?_eq_getElem _⟩
      obtain ⟨kb, ko, cs', hB, -, hcell, hpq⟩ := KidsAt.get _ (KidsAt.move (w := wb) (w1 := wv) (fun g _ hg => HBv.out.block g hg) ks HKS.out) i q hq
      have hcq := HIH.out q (List.mem_of_getElem? hq) (d + 1) (by omega) (HBIG.out q (List.mem_of_getElem? hq))
      have hst := pre_step (d := d + 1) hq
      rw [HP.out] at hst
      have HX : Aside0 (ks[i]? = some q) := ⟨hq⟩
      cases hco : countP q (d + 1) with
      | none =>
        have hz : mayZ q (d + 1) = -1 := by unfold mayZ; rw [hco]
        rw [hz] at hcq
        have HE : Aside0 (mayZ (.mk 8 ⟨#[]⟩ ts ks) d = -1) := ⟨may_kid (countL_none hq hco)⟩
        clear hst
        obtain ⟨k', t', ts', ks'⟩ := q
        obtain ⟨A', cc', B', d', rfl, -⟩ := path_cells hpq
        subst hB
        have a0 := hcell 0 _ rfl
        have a1 := hcell 1 _ rfl
        have a2 := hcell 2 _ rfl
        have a3 := hcell 3 _ rfl
        simp at a0 a1 a2 a3
        have CC : Aside0 (∀ W, Below wv.heap.size wv W → Calls Tryd.prog 65 #[.agg #[.int .i64 k', .string t', .slice A' ts'.length cc', .slice B' ks'.length d'], .int .i64 ((d : Int) + 1)] W fun e w' => e = .returned (.int .i64 (-1)) ∧ Below W.heap.size W w') := ⟨fun W hW => by
          have := hcq W ok k' t' A' ts'.length cc' B' ks'.length d' (hpq.below hW) ((HTb.out.below HBv.out).below hW)
          rwa [show (((d + 1 : Nat)) : Int) = (d : Int) + 1 by omega] at this⟩
        have g0 : (0 : Int) ≤ (i : Int) := by omega
        have g1 : (i : Int) < (ks.length : Int) := by omega
        clear hq hcell hpq hcq hz hco
        go_upto_region 9 with (fail)
        obtain ⟨wy, hwy, HY, HNy⟩ := boxP wv k' t' A' ts'.length cc' B' ks'.length d'
        rw [← hwy]
        have z0 := blk_cell HNy.out 0
        have z1 := blk_cell HNy.out 1
        have z2 := blk_cell HNy.out 2
        have z3 := blk_cell HNy.out 3
        simp at z0 z1 z2 z3
        clear hwy a0 a1 a2 a3
        go_wp2_with (go_at_call 65; (with_reducible refine (CC.out _ HY.out).mono ?_); rintro e w4 ⟨rfl, hb⟩; have HB4 := Aside0.mk (below_then (below_then HBv.out HBv.out.size HY.out) (Nat.le_trans HBv.out.size HY.out.size) hb); clear hb)
        go_ret
        exact ⟨ret_z HE.out.symm, HB.out.trans (HB4.out.mono HB.out.size)⟩
      | some r =>
        have hz : mayZ q (d + 1) = (r : Int) := by unfold mayZ; rw [hco]
        rw [hz] at hcq
        have hcn : cnt (d + 1) q = r := by unfold cnt; rw [hco]; rfl
        rw [hcn] at hst
        have HST := Aside0.mk hst
        have h63 := count_63 hco
        have HCO : Aside0 (countP q (d + 1) ≠ none) := ⟨by rw [hco]; simp⟩
        have HA2 : Aside0 (∀ (j : Nat) (q : Pth), j < i + 1 → ks[j]? = some q → countP q (d + 1) ≠ none) := ⟨fun j q2 hj hq2 => by
          by_cases h : j = i
          · subst h
            obtain rfl := Option.some.inj (HX.out.symm.trans hq2)
            exact HCO.out
          · exact HA1.out j q2 (by omega) hq2⟩
        clear hst hcn
        obtain ⟨k', t', ts', ks'⟩ := q
        obtain ⟨A', cc', B', d', rfl, -⟩ := path_cells hpq
        subst hB
        have a0 := hcell 0 _ rfl
        have a1 := hcell 1 _ rfl
        have a2 := hcell 2 _ rfl
        have a3 := hcell 3 _ rfl
        simp at a0 a1 a2 a3
        have CC : Aside0 (∀ W, Below wv.heap.size wv W → Calls Tryd.prog 65 #[.agg #[.int .i64 k', .string t', .slice A' ts'.length cc', .slice B' ks'.length d'], .int .i64 ((d : Int) + 1)] W fun e w' => e = .returned (.int .i64 (r : Int)) ∧ Below W.heap.size W w') := ⟨fun W hW => by
          have := hcq W ok k' t' A' ts'.length cc' B' ks'.length d' (hpq.below hW) ((HTb.out.below HBv.out).below hW)
          rwa [show (((d + 1 : Nat)) : Int) = (d : Int) + 1 by omega] at this⟩
        have g0 : (0 : Int) ≤ (i : Int) := by omega
        have g1 : (i : Int) < (ks.length : Int) := by omega
        clear hq hcell hpq hcq hz hco
        go_upto_region 9 with (fail)
        obtain ⟨wy, hwy, HY, HNy⟩ := boxP wv k' t' A' ts'.length cc' B' ks'.length d'
        rw [← hwy]
        have z0 := blk_cell HNy.out 0
        have z1 := blk_cell HNy.out 1
        have z2 := blk_cell HNy.out 2
        have z3 := blk_cell HNy.out 3
        simp at z0 z1 z2 z3
        clear hwy a0 a1 a2 a3
        go_wp2_with (go_at_call 65; (with_reducible refine (CC.out _ HY.out).mono ?_); rintro e w4 ⟨rfl, hb⟩; have HB4 := Aside0.mk (below_then (below_then HBv.out HBv.out.size HY.out) (Nat.le_trans HBv.out.size HY.out.size) hb); clear hb)
        go_roundw
        case rel => exact ⟨i + 1, by omega, by go_num, by rw [HST.out]; congr 1; first | omega | (push_cast; omega), HB4, HA2⟩
        case measure => simp [intOf]; omega
    · have HE : Aside0 (mayZ (.mk 8 ⟨#[]⟩ ts ks) d = 1 + (P : Int)) := ⟨by
        rw [may_yes HHERE.out (countL_of (fun j q hq => HA1.out j q (by have := (List.getElem?_eq_some_iff.1 hq).1; omega) hq)), ← HP.out]
        unfold pre
        rw [show i = ks.length by omega, List.take_length]⟩
      go_wp2_with fail
      go_ret
      exact ⟨ret_z HE.out.symm, HB.out.trans (HBv.out.mono HB.out.size)⟩
theorem count_any : ∀ p, MayC 65 p := by
  intro p
  induction p using Pth.ind with
  | h k t ts ks ih =>
  intro d hd100 hbig w ok k9 t9 A n9 c B m9 e hp hT
  obtain ⟨f4, f5, hbk⟩ := tame_mk.1 hbig
  by_cases hd : d ≤ 5
  · by_cases hk : (ks.length : Int) = kidsN k
    · cases hx : ((k == 1) == (t.toList != [])) with
      | false => exact cnt_B k t ts ks d hd100 hd hk hx w ok k9 t9 A n9 c B m9 e hp hT
      | true =>
        cases hy : ((k == 8) == decide (0 < ts.length)) with
        | false => exact cnt_C k t ts ks d hd100 hd hk hx hy w ok k9 t9 A n9 c B m9 e hp hT
        | true =>
          by_cases k1 : k = 1
          · subst k1
            have ht : 0 < t.size := by
              by_cases h0 : 0 < t.size
              · exact h0
              · obtain rfl := empty_list (show t.size = 0 by omega)
                rw [show ((⟨#[]⟩ : ByteArray).toList != []) = false by rw [tl]; rfl] at hx
                cases hx
            have hn : ¬ 0 < ts.length := fun h => by rw [decide_eq_true h] at hy; cases hy
            obtain rfl := List.eq_nil_of_length_eq_zero (show ts.length = 0 by omega)
            cases hi : iriB t with
            | false => exact cnt_1I t ks d hd100 hd hk ht hi (by omega) w ok k9 t9 A n9 c B m9 e hp hT
            | true => exact cnt_1 t ks d hd100 hd hk hi hbk ih w ok k9 t9 A n9 c B m9 e hp hT
          · have e1 : (k == 1) = false := by rw [beq_eq_false_iff_ne]; exact k1
            rw [e1] at hx
            have ht : ¬ 0 < t.size := fun h => by rw [(toList_ne h).2.2] at hx; cases hx
            obtain rfl := empty_list (show t.size = 0 by omega)
            by_cases k8 : k = 8
            · subst k8
              have hn : 0 < ts.length := by
                by_cases h0 : 0 < ts.length
                · exact h0
                · rw [decide_eq_false h0] at hy; cases hy
              by_cases h4 : 4 < ts.length
              · exact cnt_8M ts ks d hd100 hd hk h4 w ok k9 t9 A n9 c B m9 e hp hT
              · cases hi : ts.all iriB with
                | false => exact cnt_8I ts ks d hd100 hd hk hn (by omega) (fun x hx => by have := f5 x hx; omega) hi w ok k9 t9 A n9 c B m9 e hp hT
                | true => exact cnt_8 ts ks d hd100 hd hk hn (by omega) (fun x hx => by have := f5 x hx; omega) hi hbk ih w ok k9 t9 A n9 c B m9 e hp hT
            · have e8 : (k == 8) = false := by rw [beq_eq_false_iff_ne]; exact k8
              rw [e8] at hy
              have hn : ¬ 0 < ts.length := fun h => by rw [decide_eq_true h] at hy; cases hy
              obtain rfl := List.eq_nil_of_length_eq_zero (show ts.length = 0 by omega)
              exact cnt_k k ks d hd100 hd hk k1 k8 hbk ih w ok k9 t9 A n9 c B m9 e hp hT
    · exact cnt_A k t ts ks d hd100 hd hk w ok k9 t9 A n9 c B m9 e hp hT
  · exact cnt_D k t ts ks d hd100 (by omega) w ok k9 t9 A n9 c B m9 e hp hT
set_option maxRecDepth 100000 in
set_option maxHeartbeats 8000000 in
theorem is_path_tame (p : Pth) (hb : Tame p) (w : World) (ok : Nat → Prop) (k : Int) (t : ByteArray) (A : Option Addr) (n c : Nat) (B : Option Addr) (m e : Nat) (hp : PathAt w ok p [.int .i64 k, .string t, .slice A n c, .slice B m e]) (hT : Tabs w) :
    Calls Tryd.prog 32 #[.agg #[.int .i64 k, .string t, .slice A n c, .slice B m e]] w fun e w' => e = .returned (.bool (isP p)) ∧ Below w.heap.size w w' := by
  obtain ⟨wb, hwb, HB, HN⟩ := boxP w k t A n c B m e
  have HHW : Aside0 (w.alloc (.cells #[.int .i64 k, .string t, .slice A n c, .slice B m e] 25) = wb) := ⟨hwb.symm⟩
  have CC : Aside0 (Calls Tryd.prog 65 #[.agg #[.int .i64 k, .string t, .slice A n c, .slice B m e], .int .i64 0] wb fun e w' => e = .returned (.int .i64 (mayZ p 0)) ∧ Below wb.heap.size wb w') := ⟨count_any p 0 (by decide) hb wb ok k t A n c B m e (hp.below HB.out) (hT.below HB.out)⟩
  have HI : Aside0 (isP p = (decide (0 < mayZ p 0) && decide (mayZ p 0 ≤ 30))) := ⟨isP_may p⟩
  obtain ⟨z, hz⟩ : ∃ z, mayZ p 0 = z := ⟨_, rfl⟩
  rw [hz] at CC HI
  clear hwb hp hT hz hb
  by_cases h1 : 0 < z
  · have n1 : decide ((0 : Int) < z) = true := decide_eq_true h1
    cases n30 : decide (z ≤ (30 : Int)) with
    | true =>
      have HE : Aside0 (isP p = true) := ⟨by rw [HI.out, n1, n30]; rfl⟩
      clear h1
      go_enter Tryd.func32, Tryd.ntmps32
      go_upto_region 1 with (fail)
      rw [HHW.out]
      have q0 := blk_cell HN.out 0; have q1 := blk_cell HN.out 1; have q2 := blk_cell HN.out 2; have q3 := blk_cell HN.out 3; simp at q0 q1 q2 q3
      go_wp2_with (go_at_call 65; (with_reducible refine CC.out.mono ?_); rintro e w1 ⟨rfl, hb⟩; have HB1 := Aside0.mk (below_then HB.out HB.out.size hb); clear hb)
      go_ret
      exact ⟨ret_b HE.out.symm, HB1.out⟩
    | false =>
      have HE : Aside0 (isP p = false) := ⟨by rw [HI.out, n1, n30]; rfl⟩
      clear h1
      go_enter Tryd.func32, Tryd.ntmps32
      go_upto_region 1 with (fail)
      rw [HHW.out]
      have q0 := blk_cell HN.out 0; have q1 := blk_cell HN.out 1; have q2 := blk_cell HN.out 2; have q3 := blk_cell HN.out 3; simp at q0 q1 q2 q3
      go_wp2_with (go_at_call 65; (with_reducible refine CC.out.mono ?_); rintro e w1 ⟨rfl, hb⟩; have HB1 := Aside0.mk (below_then HB.out HB.out.size hb); clear hb)
      go_ret
      exact ⟨ret_b HE.out.symm, HB1.out⟩
  · have n1 : decide ((0 : Int) < z) = false := decide_eq_false h1
    have HE : Aside0 (isP p = false) := ⟨by rw [HI.out, n1]; rfl⟩
    clear h1
    go_enter Tryd.func32, Tryd.ntmps32
    go_upto_region 1 with (fail)
    rw [HHW.out]
    have q0 := blk_cell HN.out 0; have q1 := blk_cell HN.out 1; have q2 := blk_cell HN.out 2; have q3 := blk_cell HN.out 3; simp at q0 q1 q2 q3
    go_wp2_with (go_at_call 65; (with_reducible refine CC.out.mono ?_); rintro e w1 ⟨rfl, hb⟩; have HB1 := Aside0.mk (below_then HB.out HB.out.size hb); clear hb)
    go_ret
    exact ⟨ret_b HE.out.symm, HB1.out⟩
theorem is_path (p : Pth) (hb : bigP p 0 = false) (w : World) (ok : Nat → Prop) (k : Int) (t : ByteArray) (A : Option Addr) (n c : Nat) (B : Option Addr) (m e : Nat) (hp : PathAt w ok p [.int .i64 k, .string t, .slice A n c, .slice B m e]) (hT : Tabs w) :
    Calls Tryd.prog 32 #[.agg #[.int .i64 k, .string t, .slice A n c, .slice B m e]] w fun e w' => e = .returned (.bool (isP p)) ∧ Below w.heap.size w w' := is_path_tame p (tame_of_big p 0 hb) w ok k t A n c B m e hp hT
end Go.Proofs.YtbaegfjoionojaaDoor.Qy
