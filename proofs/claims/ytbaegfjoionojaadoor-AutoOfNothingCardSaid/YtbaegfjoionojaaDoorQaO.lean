/- The walk of two, at an alternative. -/
import Derived.Test.YtbaegfjoionojaaDoorQaOa
set_option linter.unusedSimpArgs false
set_option linter.unusedVariables false
namespace Go.Proofs.YtbaegfjoionojaaDoor.Qa
open Go Go.RowKit Go.Proofs.YtbaegfjoionojaaDoor.Qy Go.Proofs.YtbaegfjoionojaaDoor.Tm Go.Proofs.YtbaegfjoionojaaDoorW.PrintWords

set_option maxRecDepth 100000 in
set_option maxHeartbeats 16000000 in
theorem two_alt (r s : Rx) (hr : BuildC r) (hs : BuildC s) (back : Bool) (w : World) (N b : Nat) (al : List Alng) (bh : List (List Nat)) (S : Nat → Prop) (h : Aut w N b al bh S) (hN : N ≤ w.heap.size) (k : Int) (t : ByteArray) (A : Option Addr) (n c : Nat) (B : Option Addr) (m d : Nat)
    (hp : PathAt w (fun g => ¬ S g) (Rx.alt r s).p [.int .i64 k, .string t, .slice A n c, .slice B m d]) (hb : Bd (Rx.alt r s) al bh) :
    Calls Tryd.prog 97 #[.pointer (some ⟨b, 0, none⟩), .agg #[.int .i64 k, .string t, .slice A n c, .slice B m d], .bool back] w (PartP N b (al ++ ((Rx.alt r s).lay back).lv) (((Rx.alt r s).lay back).bf al.length bh) (((Rx.alt r s).lay back).fi al.length) (((Rx.alt r s).lay back).la al.length) ((Rx.alt r s).lay back).nl S w) := by
  obtain ⟨A9, c9, B9, d9, e0, -, -, -, -, hks⟩ := p_cells (k := 4) hp
  simp only [List.cons.injEq, Value.int.injEq, Value.string.injEq, Value.slice.injEq, true_and, and_true, List.length_nil, List.length_cons, Nat.zero_add, Nat.reduceAdd] at e0
  obtain ⟨rfl, rfl, ⟨rfl, rfl, rfl⟩, rfl, rfl, rfl⟩ := e0
  obtain ⟨wb, hwb, HB, HN, hsb⟩ := boxA w #[.int .i64 4, .string ⟨#[]⟩, .slice A 0 c, .slice B 2 d] 25
  obtain ⟨wc, hwc, HB2, HN2, hsc⟩ := boxA wb #[.slice none 0 0, .slice none 0 0, .bool false] 98
  have HW1 := Aside0.mk hwb.symm
  have HW2 := Aside0.mk hwc.symm
  have HBc := Aside0.mk (HB.out.trans (HB2.out.mono HB.out.size))
  have HAc := Aside0.mk (h.below HBc.out)
  have HFc : Aside0 (Fr S w S wc) := ⟨Fr.of HBc.out⟩
  have HN1 := Aside0.mk (blk_below HN.out HB2.out)
  rw [hsb] at HN2
  have hsS : ∀ g, S g → g < w.heap.size := fun g hg => (h.lt hg).2
  have hwn : w.heap.size ≤ wc.heap.size := HBc.out.size
  have hks2 := HFc.out.kids hks
  obtain ⟨sz, hsz⟩ : ∃ n, w.heap.size = n := ⟨_, rfl⟩
  rw [hsz] at HN1 HN2 hsb hN hsS hwn
  have HNS : Aside0 (∀ g, sz ≤ g → ¬ S g) := ⟨fun g hg hs => by have := hsS g hs; omega⟩
  have hszc : wc.heap.size = sz + 2 := by omega
  obtain ⟨kb, ko, k0, t0, A0, n0, c0, B0, m0, d0, k1, t1, A1, n1, c1, B1, m1, d1, rfl, hkS, hq0, hq1, ⟨a00, a01, a02, a03⟩, a10, a11, a12, a13⟩ := two_cells hks2
  have HQ0 := Aside0.mk hq0
  have HQ1 := Aside0.mk hq1
  have hkl : kb < wc.heap.size := World.block_lt_of_cell? wc _ a00
  have HSF : Aside0 (∀ W S', Fr S wc S' W → (fun W : World => (W.cell? ⟨sz, 3, none⟩ = some (.slice (some ⟨kb, ko, none⟩) 2 d)) ∧ (W.cell? ⟨kb, ko, none⟩ = some (.int .i64 k0) ∧ W.cell? ⟨kb, ko + 1, none⟩ = some (.string t0) ∧ W.cell? ⟨kb, ko + 2, none⟩ = some (.slice A0 n0 c0) ∧ W.cell? ⟨kb, ko + 3, none⟩ = some (.slice B0 m0 d0)) ∧ (W.cell? ⟨kb, ko + 4, none⟩ = some (.int .i64 k1) ∧ W.cell? ⟨kb, ko + 5, none⟩ = some (.string t1) ∧ W.cell? ⟨kb, ko + 6, none⟩ = some (.slice A1 n1 c1) ∧ W.cell? ⟨kb, ko + 7, none⟩ = some (.slice B1 m1 d1))) W) := ⟨fun W S' hF => by
    have e1 : W.heap[sz]? = _ := hF.blk HN1.out (HNS.out sz (Nat.le_refl _))
    have e2 : ∀ (j : Nat) u, wc.cell? ⟨kb, j, none⟩ = some u → W.cell? ⟨kb, j, none⟩ = some u := fun j u hu => (World.cell?_of_block (hF.keep kb hkl hkS)).trans hu
    exact ⟨(blk_cell e1 3).trans rfl, ⟨e2 _ _ a00, e2 _ _ a01, e2 _ _ a02, e2 _ _ a03⟩, e2 _ _ a10, e2 _ _ a11, e2 _ _ a12, e2 _ _ a13⟩⟩
  have HK0 := Aside0.mk ((blk_cell HN1.out 0).trans rfl : wc.cell? ⟨sz, 0, none⟩ = some (.int .i64 4))
  have HP6 : Aside0 (PartB wc (sz + 1) none 0 0 none 0 0 false) := ⟨HN2.out⟩
  clear hp hks hks2 hwb hwc HB HN HB2 HN2 hsb hsc a00 a01 a02 a03 a10 a11 a12 a13 hq0 hq1 h hsS HBc
  obtain ⟨hbr, hbs⟩ := hb.two (r := r) (s := s) (Nat.le_refl _) back
  obtain ⟨X, hX⟩ : ∃ e, r.lay back = e := ⟨_, rfl⟩
  obtain ⟨Y, hY⟩ : ∃ e, s.lay back = e := ⟨_, rfl⟩
  have hlay : (Rx.alt r s).lay back = .alt X Y := by rw [← hX, ← hY]; rfl
  have hXs : X.n ≤ 30 := by have h1 := X.n_sz; have h2 := r.lay_sz back; have h3 := hbr.1; rw [hX] at h2; omega
  have hYs : Y.n ≤ 30 := by have h1 := Y.n_sz; have h2 := s.lay_sz back; have h3 := hbs.1; rw [hY] at h2; omega
  rw [hlay]
  rw [hX] at hbs
  obtain ⟨al1, hal1⟩ : ∃ l, al ++ X.lv = l := ⟨_, rfl⟩
  obtain ⟨bh1, hbh1⟩ : ∃ l, X.bf al.length bh = l := ⟨_, rfl⟩
  have hl1 : al1.length = al.length + X.n := by rw [← hal1, List.length_append]; rfl
  obtain ⟨al2, hal2⟩ : ∃ l, al1 ++ Y.lv = l := ⟨_, rfl⟩
  obtain ⟨bh2, hbh2⟩ : ∃ l, Y.bf al1.length bh1 = l := ⟨_, rfl⟩
  obtain ⟨f1, hf1⟩ : ∃ l, X.fi al.length = l := ⟨_, rfl⟩
  obtain ⟨l1, hl1'⟩ : ∃ l, X.la al.length = l := ⟨_, rfl⟩
  obtain ⟨f2, hf2⟩ : ∃ l, Y.fi al1.length = l := ⟨_, rfl⟩
  obtain ⟨l2, hl2'⟩ : ∃ l, Y.la al1.length = l := ⟨_, rfl⟩
  obtain ⟨e1, he1⟩ : ∃ l, X.nl = l := ⟨_, rfl⟩
  obtain ⟨e2, he2⟩ : ∃ l, Y.nl = l := ⟨_, rfl⟩
  have HEND : Aside0 (al ++ (Lx.alt X Y).lv = al2 ∧ (Lx.alt X Y).bf al.length bh = bh2 ∧ (Lx.alt X Y).fi al.length = f1 ++ f2 ∧ (Lx.alt X Y).la al.length = l1 ++ l2 ∧ (Lx.alt X Y).nl = (e1 || e2)) := ⟨by
    refine ⟨?_, ?_, ?_, ?_, ?_⟩
    · rw [← hal2, ← hal1]; simp [Lx.lv]
    · rw [← hbh2, ← hbh1, hl1]; rfl
    · rw [← hf1, ← hf2, hl1]; rfl
    · rw [← hl1', ← hl2', hl1]; rfl
    · rw [← he1, ← he2]; rfl⟩
  have hlf1 : 0 < f1.length ∧ f1.length ≤ 30 := by rw [← hf1]; have := X.fi_len al.length; omega
  have hll1 : 0 < l1.length ∧ l1.length ≤ 30 := by rw [← hl1']; have := X.la_len al.length; omega
  have hlf2 : 0 < f2.length ∧ f2.length ≤ 30 := by rw [← hf2]; have := Y.fi_len al1.length; omega
  have hll2 : 0 < l2.length ∧ l2.length ≤ 30 := by rw [← hl2']; have := Y.la_len al1.length; omega
  have CX : Aside0 (∀ W, Aut W N b al bh S → Fr S wc S W → Calls Tryd.prog 66 #[.pointer (some ⟨b, 0, none⟩), .agg #[.int .i64 k0, .string t0, .slice A0 n0 c0, .slice B0 m0 d0], .bool back] W (PartP N b al1 bh1 f1 l1 e1 S W)) := ⟨fun W hA hF => by
    have := hr back W N b al bh S hA (by have := hF.size; omega) k0 t0 A0 n0 c0 B0 m0 d0 (hF.path HQ0.out) hbr
    rwa [hX, hal1, hbh1, hf1, hl1', he1] at this⟩
  have CY : Aside0 (∀ W S1, Aut W N b al1 bh1 S1 → Fr S wc S1 W → Calls Tryd.prog 66 #[.pointer (some ⟨b, 0, none⟩), .agg #[.int .i64 k1, .string t1, .slice A1 n1 c1, .slice B1 m1 d1], .bool back] W (PartP N b al2 bh2 f2 l2 e2 S1 W)) := ⟨fun W S1 hA hF => by
    have := hs back W N b al1 bh1 S1 hA (by have := hF.size; omega) k1 t1 A1 n1 c1 B1 m1 d1 (hF.path HQ1.out) (by rw [hal1, hbh1] at hbs; exact hbs)
    rwa [hY, hal2, hbh2, hf2, hl2', he2] at this⟩
  have HLEN := Aside0.mk (And.intro hlf1 (And.intro hll1 (And.intro hlf2 hll2)))
  rw [HEND.out.1, HEND.out.2.1, HEND.out.2.2.1, HEND.out.2.2.2.1, HEND.out.2.2.2.2]
  clear hbr hbs hX hY hlay hXs hYs hal1 hbh1 hl1 hal2 hbh2 hf1 hl1' hf2 hl2' he1 he2 hlf1 hll1 hlf2 hll2 hb hr hs HEND HQ0 HQ1
  go_enter Tryd.func97, Tryd.ntmps97
  go_upto_region 1 with (fail)
  rw [HW1.out, HW2.out]
  clear HW1 HW2
  have q0 := HK0.out
  go_upto_region 2 with (fail)
  clear q0 HK0
  have HAd := Aside0.mk (HAc.out.below (below_drew (Below.refl wc.heap.size wc)))
  have HFd := Aside0.mk (Fr.of (S := S) (below_drew (Below.refl wc.heap.size wc)))
  have hS : (fun W : World => (W.cell? ⟨sz, 3, none⟩ = some (.slice (some ⟨kb, ko, none⟩) 2 d)) ∧ (W.cell? ⟨kb, ko, none⟩ = some (.int .i64 k0) ∧ W.cell? ⟨kb, ko + 1, none⟩ = some (.string t0) ∧ W.cell? ⟨kb, ko + 2, none⟩ = some (.slice A0 n0 c0) ∧ W.cell? ⟨kb, ko + 3, none⟩ = some (.slice B0 m0 d0)) ∧ (W.cell? ⟨kb, ko + 4, none⟩ = some (.int .i64 k1) ∧ W.cell? ⟨kb, ko + 5, none⟩ = some (.string t1) ∧ W.cell? ⟨kb, ko + 6, none⟩ = some (.slice A1 n1 c1) ∧ W.cell? ⟨kb, ko + 7, none⟩ = some (.slice B1 m1 d1))) wc.drew := HSF.out _ _ HFd.out
  refine wp_region_held (S := (fun W : World => (W.cell? ⟨sz, 3, none⟩ = some (.slice (some ⟨kb, ko, none⟩) 2 d)) ∧ (W.cell? ⟨kb, ko, none⟩ = some (.int .i64 k0) ∧ W.cell? ⟨kb, ko + 1, none⟩ = some (.string t0) ∧ W.cell? ⟨kb, ko + 2, none⟩ = some (.slice A0 n0 c0) ∧ W.cell? ⟨kb, ko + 3, none⟩ = some (.slice B0 m0 d0)) ∧ (W.cell? ⟨kb, ko + 4, none⟩ = some (.int .i64 k1) ∧ W.cell? ⟨kb, ko + 5, none⟩ = some (.string t1) ∧ W.cell? ⟨kb, ko + 6, none⟩ = some (.slice A1 n1 c1) ∧ W.cell? ⟨kb, ko + 7, none⟩ = some (.slice B1 m1 d1)))) (by kernel_rfl) ?_
  change wpAnyH _ _ _ _ _ _ _ _ wc.drew
  obtain ⟨wd, hwd⟩ : ∃ x, x = wc.drew := ⟨_, rfl⟩
  rw [← hwd] at HAd HFd hS ⊢
  clear hwd
  first | refine tkU 0 hS ?_ | (refine tkV 0 (v := ?_) hS ?_ ?_; rotate_left 1; · (intro w0 hSw; (try dsimp only at hSw); go_split_ands; go_simp; try with_reducible rfl)) | fail
  try simp only [Act.put, pL]
  first | refine tkU 1 hS ?_ | (refine tkV 1 (v := ?_) hS ?_ ?_; rotate_left 1; · (intro w0 hSw; (try dsimp only at hSw); go_split_ands; go_simp; try with_reducible rfl)) | fail
  try simp only [Act.put, pL]
  first | refine tkU 2 hS ?_ | (refine tkV 2 (v := ?_) hS ?_ ?_; rotate_left 1; · (intro w0 hSw; (try dsimp only at hSw); go_split_ands; go_simp; try with_reducible rfl)) | fail
  try simp only [Act.put, pL]
  first | refine tkU 3 hS ?_ | (refine tkV 3 (v := ?_) hS ?_ ?_; rotate_left 1; · (intro w0 hSw; (try dsimp only at hSw); go_split_ands; go_simp; try with_reducible rfl)) | fail
  try simp only [Act.put, pL]
  first | refine tkU 4 hS ?_ | (refine tkV 4 (v := ?_) hS ?_ ?_; rotate_left 1; · (intro w0 hSw; (try dsimp only at hSw); go_split_ands; go_simp; try with_reducible rfl)) | fail
  try simp only [Act.put, pL]
  first | refine tkU 5 hS ?_ | (refine tkV 5 (v := ?_) hS ?_ ?_; rotate_left 1; · (intro w0 hSw; (try dsimp only at hSw); go_split_ands; go_simp; try with_reducible rfl)) | fail
  try simp only [Act.put, pL]
  first | refine tkU 7 hS ?_ | (refine tkV 7 (v := ?_) hS ?_ ?_; rotate_left 1; · (intro w0 hSw; (try dsimp only at hSw); go_split_ands; go_simp; try with_reducible rfl)) | fail
  try simp only [Act.put, pL]
  first | refine tkU 8 hS ?_ | (refine tkV 8 (v := ?_) hS ?_ ?_; rotate_left 1; · (intro w0 hSw; (try dsimp only at hSw); go_split_ands; go_simp; try with_reducible rfl)) | fail
  try simp only [Act.put, pL]
  first | refine tkU 9 hS ?_ | (refine tkV 9 (v := ?_) hS ?_ ?_; rotate_left 1; · (intro w0 hSw; (try dsimp only at hSw); go_split_ands; go_simp; try with_reducible rfl)) | fail
  try simp only [Act.put, pL]
  first | refine tkU 10 hS ?_ | (refine tkV 10 (v := ?_) hS ?_ ?_; rotate_left 1; · (intro w0 hSw; (try dsimp only at hSw); go_split_ands; go_simp; try with_reducible rfl)) | fail
  try simp only [Act.put, pL]
  first | refine tkU 11 hS ?_ | (refine tkV 11 (v := ?_) hS ?_ ?_; rotate_left 1; · (intro w0 hSw; (try dsimp only at hSw); go_split_ands; go_simp; try with_reducible rfl)) | fail
  try simp only [Act.put, pL]
  first | refine tkU 12 hS ?_ | (refine tkV 12 (v := ?_) hS ?_ ?_; rotate_left 1; · (intro w0 hSw; (try dsimp only at hSw); go_split_ands; go_simp; try with_reducible rfl)) | fail
  try simp only [Act.put, pL]
  clear hS
  refine' join12 (ST := fun (W : World) (g1 g2 : Nat) (S2 : Nat → Prop) (F1 : Option Addr) (cF1 : Nat) (L1 : Option Addr) (cL1 : Nat) (F2 : Option Addr) (cF2 : Nat) (L2 : Option Addr) (cL2 : Nat) => Aside0 (Aut W N b al2 bh2 S2) ∧ Aside0 (Fr S wc S2 W) ∧ Aside0 (IntsAt W (fun g => ¬ S2 g) F1 f1) ∧ Aside0 (IntsAt W (fun g => ¬ S2 g) L1 l1) ∧ Aside0 (IntsAt W (fun g => ¬ S2 g) F2 f2) ∧ Aside0 (IntsAt W (fun g => ¬ S2 g) L2 l2) ∧ Aside0 (PartB W g1 none 0 0 none 0 0 false) ∧ Aside0 (PartB W g2 none 0 0 none 0 0 false) ∧ sz + 2 ≤ g1 ∧ sz + 2 ≤ g2 ∧ g1 ≠ g2) (fun key => ?_) ?_
  rotate_left 1
  · skip
    refine wpAnyH_ready (rs := [6, 14, 15]) (by kernel_rfl) (by simp) ?_
    refine AllReadyH.cons rfl (fun K hK => ?_) (AllReadyH.cons rfl (fun K hK => ?_) (AllReadyH.cons rfl (fun K hK => ?_) AllReadyH.nil))
    · skip
      go_simp
      refine (CX.out _ HAd.out HFd.out).mono ?_
      rintro e w1 ⟨S1, hA1, hF1, F1, cF1, L1, cL1, rfl, hf1, hl1⟩
      have HA1 := Aside0.mk hA1
      have HF1 := Aside0.mk (HFd.out.trans hF1)
      have HXf1 := Aside0.mk hf1
      have HXl1 := Aside0.mk hl1
      refine hK.out _ _ (HSF.out _ _ HF1.out) (fun _ => ?_)
      clear hK K hA1 hF1 hf1 hl1
      try simp only [Act.put, pL]
      refine wpAnyH_ready (rs := [13, 14, 15]) (by kernel_rfl) (by simp) ?_
      refine AllReadyH.cons rfl (fun K hK => ?_) (AllReadyH.cons rfl (fun K hK => ?_) (AllReadyH.cons rfl (fun K hK => ?_) AllReadyH.nil))
      · skip
        go_simp
        refine (CY.out _ _ HA1.out HF1.out).mono ?_
        rintro e w2 ⟨S2, hA2, hF2, F2, cF2, L2, cL2, rfl, hf2, hl2⟩
        have HA2 := Aside0.mk hA2
        have HF2 := Aside0.mk (HF1.out.trans hF2)
        have HYf2 := Aside0.mk hf2
        have HYl2 := Aside0.mk hl2
        have HXf2 := Aside0.mk (hF2.ints HXf1.out)
        have HXl2 := Aside0.mk (hF2.ints HXl1.out)
        refine hK.out _ _ (HSF.out _ _ HF2.out) (fun _ => ?_)
        clear hK K hA2 hF2 hf2 hl2
        try simp only [Act.put, pL]
        refine wpAnyH_ready (rs := [14, 15]) (by kernel_rfl) (by simp) ?_
        refine AllReadyH.cons rfl (fun K hK => ?_) (AllReadyH.cons rfl (fun K hK => ?_) AllReadyH.nil)
        · skip
          go_simp
          obtain ⟨w3, hw3, HB3, HN3, hs3⟩ := boxA w2 #[.slice none 0 0, .slice none 0 0, .bool false] 98
          rw [← hw3]
          have HA3 := Aside0.mk (HA2.out.below HB3.out)
          have HF3 := Aside0.mk (HF2.out.trans (Fr.of HB3.out))
          have HXf3 := Aside0.mk (HXf2.out.below HB3.out)
          have HXl3 := Aside0.mk (HXl2.out.below HB3.out)
          have HYf3 := Aside0.mk (HYf2.out.below HB3.out)
          have HYl3 := Aside0.mk (HYl2.out.below HB3.out)
          have HP14_3 : Aside0 (PartB w3 w2.heap.size none 0 0 none 0 0 false) := ⟨HN3.out⟩
          have hge14 : sz + 2 ≤ w2.heap.size := by have := HF2.out.size; omega
          obtain ⟨g1, hg1⟩ : ∃ g, w2.heap.size = g := ⟨_, rfl⟩
          rw [hg1] at HP14_3 hge14 ⊢
          refine hK.out _ _ (HSF.out _ _ HF3.out) (fun _ => ?_)
          clear hK K hw3 HN3 hs3 HB3
          try simp only [Act.put, pL]
          refine wpAnyH_ready (rs := [15]) (by kernel_rfl) (by simp) ?_
          refine AllReadyH.cons rfl (fun K hK => ?_) AllReadyH.nil
          go_simp
          obtain ⟨w4, hw4, HB4, HN4, hs4⟩ := boxA w3 #[.slice none 0 0, .slice none 0 0, .bool false] 98
          rw [← hw4]
          have HA4 := Aside0.mk (HA3.out.below HB4.out)
          have HF4 := Aside0.mk (HF3.out.trans (Fr.of HB4.out))
          have HXf4 := Aside0.mk (HXf3.out.below HB4.out)
          have HXl4 := Aside0.mk (HXl3.out.below HB4.out)
          have HYf4 := Aside0.mk (HYf3.out.below HB4.out)
          have HYl4 := Aside0.mk (HYl3.out.below HB4.out)
          have HP14_4 := Aside0.mk (HP14_3.out.below HB4.out)
          have hlt4 := blk_lt HP14_3.out
          have HP15_4 : Aside0 (PartB w4 w3.heap.size none 0 0 none 0 0 false) := ⟨HN4.out⟩
          have hge15 : sz + 2 ≤ w3.heap.size := by have := HF3.out.size; omega
          obtain ⟨g2, hg2⟩ : ∃ g, w3.heap.size = g := ⟨_, rfl⟩
          rw [hg2] at HP15_4 hge15 ⊢
          have hgne : g1 ≠ g2 := by omega
          refine hK.out _ _ (HSF.out _ _ HF4.out) (fun _ => ?_)
          clear hK K hw4 HN4 hs4 HB4
          try simp only [Act.put, pL]
          exact key w4 g1 g2 S2 F1 cF1 L1 cL1 F2 cF2 L2 cL2 ⟨HA4, HF4, HXf4, HXl4, HYf4, HYl4, HP14_4, HP15_4, hge14, hge15, hgne⟩
        · skip
          go_simp
          obtain ⟨w3, hw3, HB3, HN3, hs3⟩ := boxA w2 #[.slice none 0 0, .slice none 0 0, .bool false] 98
          rw [← hw3]
          have HA3 := Aside0.mk (HA2.out.below HB3.out)
          have HF3 := Aside0.mk (HF2.out.trans (Fr.of HB3.out))
          have HXf3 := Aside0.mk (HXf2.out.below HB3.out)
          have HXl3 := Aside0.mk (HXl2.out.below HB3.out)
          have HYf3 := Aside0.mk (HYf2.out.below HB3.out)
          have HYl3 := Aside0.mk (HYl2.out.below HB3.out)
          have HP15_3 : Aside0 (PartB w3 w2.heap.size none 0 0 none 0 0 false) := ⟨HN3.out⟩
          have hge15 : sz + 2 ≤ w2.heap.size := by have := HF2.out.size; omega
          obtain ⟨g2, hg2⟩ : ∃ g, w2.heap.size = g := ⟨_, rfl⟩
          rw [hg2] at HP15_3 hge15 ⊢
          refine hK.out _ _ (HSF.out _ _ HF3.out) (fun _ => ?_)
          clear hK K hw3 HN3 hs3 HB3
          try simp only [Act.put, pL]
          refine wpAnyH_ready (rs := [14]) (by kernel_rfl) (by simp) ?_
          refine AllReadyH.cons rfl (fun K hK => ?_) AllReadyH.nil
          go_simp
          obtain ⟨w4, hw4, HB4, HN4, hs4⟩ := boxA w3 #[.slice none 0 0, .slice none 0 0, .bool false] 98
          rw [← hw4]
          have HA4 := Aside0.mk (HA3.out.below HB4.out)
          have HF4 := Aside0.mk (HF3.out.trans (Fr.of HB4.out))
          have HXf4 := Aside0.mk (HXf3.out.below HB4.out)
          have HXl4 := Aside0.mk (HXl3.out.below HB4.out)
          have HYf4 := Aside0.mk (HYf3.out.below HB4.out)
          have HYl4 := Aside0.mk (HYl3.out.below HB4.out)
          have HP15_4 := Aside0.mk (HP15_3.out.below HB4.out)
          have hlt4 := blk_lt HP15_3.out
          have HP14_4 : Aside0 (PartB w4 w3.heap.size none 0 0 none 0 0 false) := ⟨HN4.out⟩
          have hge14 : sz + 2 ≤ w3.heap.size := by have := HF3.out.size; omega
          obtain ⟨g1, hg1⟩ : ∃ g, w3.heap.size = g := ⟨_, rfl⟩
          rw [hg1] at HP14_4 hge14 ⊢
          have hgne : g1 ≠ g2 := by omega
          refine hK.out _ _ (HSF.out _ _ HF4.out) (fun _ => ?_)
          clear hK K hw4 HN4 hs4 HB4
          try simp only [Act.put, pL]
          exact key w4 g1 g2 S2 F1 cF1 L1 cL1 F2 cF2 L2 cL2 ⟨HA4, HF4, HXf4, HXl4, HYf4, HYl4, HP14_4, HP15_4, hge14, hge15, hgne⟩
      · skip
        go_simp
        obtain ⟨w2, hw2, HB2, HN2, hs2⟩ := boxA w1 #[.slice none 0 0, .slice none 0 0, .bool false] 98
        rw [← hw2]
        have HA2 := Aside0.mk (HA1.out.below HB2.out)
        have HF2 := Aside0.mk (HF1.out.trans (Fr.of HB2.out))
        have HXf2 := Aside0.mk (HXf1.out.below HB2.out)
        have HXl2 := Aside0.mk (HXl1.out.below HB2.out)
        have HP14_2 : Aside0 (PartB w2 w1.heap.size none 0 0 none 0 0 false) := ⟨HN2.out⟩
        have hge14 : sz + 2 ≤ w1.heap.size := by have := HF1.out.size; omega
        obtain ⟨g1, hg1⟩ : ∃ g, w1.heap.size = g := ⟨_, rfl⟩
        rw [hg1] at HP14_2 hge14 ⊢
        refine hK.out _ _ (HSF.out _ _ HF2.out) (fun _ => ?_)
        clear hK K hw2 HN2 hs2 HB2
        try simp only [Act.put, pL]
        refine wpAnyH_ready (rs := [13, 15]) (by kernel_rfl) (by simp) ?_
        refine AllReadyH.cons rfl (fun K hK => ?_) (AllReadyH.cons rfl (fun K hK => ?_) AllReadyH.nil)
        · skip
          go_simp
          refine (CY.out _ _ HA2.out HF2.out).mono ?_
          rintro e w3 ⟨S2, hA3, hF3, F2, cF2, L2, cL2, rfl, hf3, hl3⟩
          have HA3 := Aside0.mk hA3
          have HF3 := Aside0.mk (HF2.out.trans hF3)
          have HYf3 := Aside0.mk hf3
          have HYl3 := Aside0.mk hl3
          have HXf3 := Aside0.mk (hF3.ints HXf2.out)
          have HXl3 := Aside0.mk (hF3.ints HXl2.out)
          have HP14_3 : Aside0 (PartB w3 _ none 0 0 none 0 0 false) := ⟨hF3.blk HP14_2.out (HA2.out.not_part HP14_2.out)⟩
          refine hK.out _ _ (HSF.out _ _ HF3.out) (fun _ => ?_)
          clear hK K hA3 hF3 hf3 hl3
          try simp only [Act.put, pL]
          refine wpAnyH_ready (rs := [15]) (by kernel_rfl) (by simp) ?_
          refine AllReadyH.cons rfl (fun K hK => ?_) AllReadyH.nil
          go_simp
          obtain ⟨w4, hw4, HB4, HN4, hs4⟩ := boxA w3 #[.slice none 0 0, .slice none 0 0, .bool false] 98
          rw [← hw4]
          have HA4 := Aside0.mk (HA3.out.below HB4.out)
          have HF4 := Aside0.mk (HF3.out.trans (Fr.of HB4.out))
          have HXf4 := Aside0.mk (HXf3.out.below HB4.out)
          have HXl4 := Aside0.mk (HXl3.out.below HB4.out)
          have HYf4 := Aside0.mk (HYf3.out.below HB4.out)
          have HYl4 := Aside0.mk (HYl3.out.below HB4.out)
          have HP14_4 := Aside0.mk (HP14_3.out.below HB4.out)
          have hlt4 := blk_lt HP14_3.out
          have HP15_4 : Aside0 (PartB w4 w3.heap.size none 0 0 none 0 0 false) := ⟨HN4.out⟩
          have hge15 : sz + 2 ≤ w3.heap.size := by have := HF3.out.size; omega
          obtain ⟨g2, hg2⟩ : ∃ g, w3.heap.size = g := ⟨_, rfl⟩
          rw [hg2] at HP15_4 hge15 ⊢
          have hgne : g1 ≠ g2 := by omega
          refine hK.out _ _ (HSF.out _ _ HF4.out) (fun _ => ?_)
          clear hK K hw4 HN4 hs4 HB4
          try simp only [Act.put, pL]
          exact key w4 g1 g2 S2 F1 cF1 L1 cL1 F2 cF2 L2 cL2 ⟨HA4, HF4, HXf4, HXl4, HYf4, HYl4, HP14_4, HP15_4, hge14, hge15, hgne⟩
        · skip
          go_simp
          obtain ⟨w3, hw3, HB3, HN3, hs3⟩ := boxA w2 #[.slice none 0 0, .slice none 0 0, .bool false] 98
          rw [← hw3]
          have HA3 := Aside0.mk (HA2.out.below HB3.out)
          have HF3 := Aside0.mk (HF2.out.trans (Fr.of HB3.out))
          have HXf3 := Aside0.mk (HXf2.out.below HB3.out)
          have HXl3 := Aside0.mk (HXl2.out.below HB3.out)
          have HP14_3 := Aside0.mk (HP14_2.out.below HB3.out)
          have hlt3 := blk_lt HP14_2.out
          have HP15_3 : Aside0 (PartB w3 w2.heap.size none 0 0 none 0 0 false) := ⟨HN3.out⟩
          have hge15 : sz + 2 ≤ w2.heap.size := by have := HF2.out.size; omega
          obtain ⟨g2, hg2⟩ : ∃ g, w2.heap.size = g := ⟨_, rfl⟩
          rw [hg2] at HP15_3 hge15 ⊢
          have hgne : g1 ≠ g2 := by omega
          refine hK.out _ _ (HSF.out _ _ HF3.out) (fun _ => ?_)
          clear hK K hw3 HN3 hs3 HB3
          try simp only [Act.put, pL]
          refine wpAnyH_ready (rs := [13]) (by kernel_rfl) (by simp) ?_
          refine AllReadyH.cons rfl (fun K hK => ?_) AllReadyH.nil
          go_simp
          refine (CY.out _ _ HA3.out HF3.out).mono ?_
          rintro e w4 ⟨S2, hA4, hF4, F2, cF2, L2, cL2, rfl, hf4, hl4⟩
          have HA4 := Aside0.mk hA4
          have HF4 := Aside0.mk (HF3.out.trans hF4)
          have HYf4 := Aside0.mk hf4
          have HYl4 := Aside0.mk hl4
          have HXf4 := Aside0.mk (hF4.ints HXf3.out)
          have HXl4 := Aside0.mk (hF4.ints HXl3.out)
          have HP14_4 : Aside0 (PartB w4 _ none 0 0 none 0 0 false) := ⟨hF4.blk HP14_3.out (HA3.out.not_part HP14_3.out)⟩
          have HP15_4 : Aside0 (PartB w4 _ none 0 0 none 0 0 false) := ⟨hF4.blk HP15_3.out (HA3.out.not_part HP15_3.out)⟩
          refine hK.out _ _ (HSF.out _ _ HF4.out) (fun _ => ?_)
          clear hK K hA4 hF4 hf4 hl4
          try simp only [Act.put, pL]
          exact key w4 g1 g2 S2 F1 cF1 L1 cL1 F2 cF2 L2 cL2 ⟨HA4, HF4, HXf4, HXl4, HYf4, HYl4, HP14_4, HP15_4, hge14, hge15, hgne⟩
      · skip
        go_simp
        obtain ⟨w2, hw2, HB2, HN2, hs2⟩ := boxA w1 #[.slice none 0 0, .slice none 0 0, .bool false] 98
        rw [← hw2]
        have HA2 := Aside0.mk (HA1.out.below HB2.out)
        have HF2 := Aside0.mk (HF1.out.trans (Fr.of HB2.out))
        have HXf2 := Aside0.mk (HXf1.out.below HB2.out)
        have HXl2 := Aside0.mk (HXl1.out.below HB2.out)
        have HP15_2 : Aside0 (PartB w2 w1.heap.size none 0 0 none 0 0 false) := ⟨HN2.out⟩
        have hge15 : sz + 2 ≤ w1.heap.size := by have := HF1.out.size; omega
        obtain ⟨g2, hg2⟩ : ∃ g, w1.heap.size = g := ⟨_, rfl⟩
        rw [hg2] at HP15_2 hge15 ⊢
        refine hK.out _ _ (HSF.out _ _ HF2.out) (fun _ => ?_)
        clear hK K hw2 HN2 hs2 HB2
        try simp only [Act.put, pL]
        refine wpAnyH_ready (rs := [13, 14]) (by kernel_rfl) (by simp) ?_
        refine AllReadyH.cons rfl (fun K hK => ?_) (AllReadyH.cons rfl (fun K hK => ?_) AllReadyH.nil)
        · skip
          go_simp
          refine (CY.out _ _ HA2.out HF2.out).mono ?_
          rintro e w3 ⟨S2, hA3, hF3, F2, cF2, L2, cL2, rfl, hf3, hl3⟩
          have HA3 := Aside0.mk hA3
          have HF3 := Aside0.mk (HF2.out.trans hF3)
          have HYf3 := Aside0.mk hf3
          have HYl3 := Aside0.mk hl3
          have HXf3 := Aside0.mk (hF3.ints HXf2.out)
          have HXl3 := Aside0.mk (hF3.ints HXl2.out)
          have HP15_3 : Aside0 (PartB w3 _ none 0 0 none 0 0 false) := ⟨hF3.blk HP15_2.out (HA2.out.not_part HP15_2.out)⟩
          refine hK.out _ _ (HSF.out _ _ HF3.out) (fun _ => ?_)
          clear hK K hA3 hF3 hf3 hl3
          try simp only [Act.put, pL]
          refine wpAnyH_ready (rs := [14]) (by kernel_rfl) (by simp) ?_
          refine AllReadyH.cons rfl (fun K hK => ?_) AllReadyH.nil
          go_simp
          obtain ⟨w4, hw4, HB4, HN4, hs4⟩ := boxA w3 #[.slice none 0 0, .slice none 0 0, .bool false] 98
          rw [← hw4]
          have HA4 := Aside0.mk (HA3.out.below HB4.out)
          have HF4 := Aside0.mk (HF3.out.trans (Fr.of HB4.out))
          have HXf4 := Aside0.mk (HXf3.out.below HB4.out)
          have HXl4 := Aside0.mk (HXl3.out.below HB4.out)
          have HYf4 := Aside0.mk (HYf3.out.below HB4.out)
          have HYl4 := Aside0.mk (HYl3.out.below HB4.out)
          have HP15_4 := Aside0.mk (HP15_3.out.below HB4.out)
          have hlt4 := blk_lt HP15_3.out
          have HP14_4 : Aside0 (PartB w4 w3.heap.size none 0 0 none 0 0 false) := ⟨HN4.out⟩
          have hge14 : sz + 2 ≤ w3.heap.size := by have := HF3.out.size; omega
          obtain ⟨g1, hg1⟩ : ∃ g, w3.heap.size = g := ⟨_, rfl⟩
          rw [hg1] at HP14_4 hge14 ⊢
          have hgne : g1 ≠ g2 := by omega
          refine hK.out _ _ (HSF.out _ _ HF4.out) (fun _ => ?_)
          clear hK K hw4 HN4 hs4 HB4
          try simp only [Act.put, pL]
          exact key w4 g1 g2 S2 F1 cF1 L1 cL1 F2 cF2 L2 cL2 ⟨HA4, HF4, HXf4, HXl4, HYf4, HYl4, HP14_4, HP15_4, hge14, hge15, hgne⟩
        · skip
          go_simp
          obtain ⟨w3, hw3, HB3, HN3, hs3⟩ := boxA w2 #[.slice none 0 0, .slice none 0 0, .bool false] 98
          rw [← hw3]
          have HA3 := Aside0.mk (HA2.out.below HB3.out)
          have HF3 := Aside0.mk (HF2.out.trans (Fr.of HB3.out))
          have HXf3 := Aside0.mk (HXf2.out.below HB3.out)
          have HXl3 := Aside0.mk (HXl2.out.below HB3.out)
          have HP15_3 := Aside0.mk (HP15_2.out.below HB3.out)
          have hlt3 := blk_lt HP15_2.out
          have HP14_3 : Aside0 (PartB w3 w2.heap.size none 0 0 none 0 0 false) := ⟨HN3.out⟩
          have hge14 : sz + 2 ≤ w2.heap.size := by have := HF2.out.size; omega
          obtain ⟨g1, hg1⟩ : ∃ g, w2.heap.size = g := ⟨_, rfl⟩
          rw [hg1] at HP14_3 hge14 ⊢
          have hgne : g1 ≠ g2 := by omega
          refine hK.out _ _ (HSF.out _ _ HF3.out) (fun _ => ?_)
          clear hK K hw3 HN3 hs3 HB3
          try simp only [Act.put, pL]
          refine wpAnyH_ready (rs := [13]) (by kernel_rfl) (by simp) ?_
          refine AllReadyH.cons rfl (fun K hK => ?_) AllReadyH.nil
          go_simp
          refine (CY.out _ _ HA3.out HF3.out).mono ?_
          rintro e w4 ⟨S2, hA4, hF4, F2, cF2, L2, cL2, rfl, hf4, hl4⟩
          have HA4 := Aside0.mk hA4
          have HF4 := Aside0.mk (HF3.out.trans hF4)
          have HYf4 := Aside0.mk hf4
          have HYl4 := Aside0.mk hl4
          have HXf4 := Aside0.mk (hF4.ints HXf3.out)
          have HXl4 := Aside0.mk (hF4.ints HXl3.out)
          have HP14_4 : Aside0 (PartB w4 _ none 0 0 none 0 0 false) := ⟨hF4.blk HP14_3.out (HA3.out.not_part HP14_3.out)⟩
          have HP15_4 : Aside0 (PartB w4 _ none 0 0 none 0 0 false) := ⟨hF4.blk HP15_3.out (HA3.out.not_part HP15_3.out)⟩
          refine hK.out _ _ (HSF.out _ _ HF4.out) (fun _ => ?_)
          clear hK K hA4 hF4 hf4 hl4
          try simp only [Act.put, pL]
          exact key w4 g1 g2 S2 F1 cF1 L1 cL1 F2 cF2 L2 cL2 ⟨HA4, HF4, HXf4, HXl4, HYf4, HYl4, HP14_4, HP15_4, hge14, hge15, hgne⟩
    · skip
      go_simp
      obtain ⟨w1, hw1, HB1, HN1, hs1⟩ := boxA wd #[.slice none 0 0, .slice none 0 0, .bool false] 98
      rw [← hw1]
      have HA1 := Aside0.mk (HAd.out.below HB1.out)
      have HF1 := Aside0.mk (HFd.out.trans (Fr.of HB1.out))
      have HP14_1 : Aside0 (PartB w1 wd.heap.size none 0 0 none 0 0 false) := ⟨HN1.out⟩
      have hge14 : sz + 2 ≤ wd.heap.size := by have := HFd.out.size; omega
      obtain ⟨g1, hg1⟩ : ∃ g, wd.heap.size = g := ⟨_, rfl⟩
      rw [hg1] at HP14_1 hge14 ⊢
      refine hK.out _ _ (HSF.out _ _ HF1.out) (fun _ => ?_)
      clear hK K hw1 HN1 hs1 HB1
      try simp only [Act.put, pL]
      refine wpAnyH_ready (rs := [6, 15]) (by kernel_rfl) (by simp) ?_
      refine AllReadyH.cons rfl (fun K hK => ?_) (AllReadyH.cons rfl (fun K hK => ?_) AllReadyH.nil)
      · skip
        go_simp
        refine (CX.out _ HA1.out HF1.out).mono ?_
        rintro e w2 ⟨S1, hA2, hF2, F1, cF1, L1, cL1, rfl, hf2, hl2⟩
        have HA2 := Aside0.mk hA2
        have HF2 := Aside0.mk (HF1.out.trans hF2)
        have HXf2 := Aside0.mk hf2
        have HXl2 := Aside0.mk hl2
        have HP14_2 : Aside0 (PartB w2 _ none 0 0 none 0 0 false) := ⟨hF2.blk HP14_1.out (HA1.out.not_part HP14_1.out)⟩
        refine hK.out _ _ (HSF.out _ _ HF2.out) (fun _ => ?_)
        clear hK K hA2 hF2 hf2 hl2
        try simp only [Act.put, pL]
        refine wpAnyH_ready (rs := [13, 15]) (by kernel_rfl) (by simp) ?_
        refine AllReadyH.cons rfl (fun K hK => ?_) (AllReadyH.cons rfl (fun K hK => ?_) AllReadyH.nil)
        · skip
          go_simp
          refine (CY.out _ _ HA2.out HF2.out).mono ?_
          rintro e w3 ⟨S2, hA3, hF3, F2, cF2, L2, cL2, rfl, hf3, hl3⟩
          have HA3 := Aside0.mk hA3
          have HF3 := Aside0.mk (HF2.out.trans hF3)
          have HYf3 := Aside0.mk hf3
          have HYl3 := Aside0.mk hl3
          have HXf3 := Aside0.mk (hF3.ints HXf2.out)
          have HXl3 := Aside0.mk (hF3.ints HXl2.out)
          have HP14_3 : Aside0 (PartB w3 _ none 0 0 none 0 0 false) := ⟨hF3.blk HP14_2.out (HA2.out.not_part HP14_2.out)⟩
          refine hK.out _ _ (HSF.out _ _ HF3.out) (fun _ => ?_)
          clear hK K hA3 hF3 hf3 hl3
          try simp only [Act.put, pL]
          refine wpAnyH_ready (rs := [15]) (by kernel_rfl) (by simp) ?_
          refine AllReadyH.cons rfl (fun K hK => ?_) AllReadyH.nil
          go_simp
          obtain ⟨w4, hw4, HB4, HN4, hs4⟩ := boxA w3 #[.slice none 0 0, .slice none 0 0, .bool false] 98
          rw [← hw4]
          have HA4 := Aside0.mk (HA3.out.below HB4.out)
          have HF4 := Aside0.mk (HF3.out.trans (Fr.of HB4.out))
          have HXf4 := Aside0.mk (HXf3.out.below HB4.out)
          have HXl4 := Aside0.mk (HXl3.out.below HB4.out)
          have HYf4 := Aside0.mk (HYf3.out.below HB4.out)
          have HYl4 := Aside0.mk (HYl3.out.below HB4.out)
          have HP14_4 := Aside0.mk (HP14_3.out.below HB4.out)
          have hlt4 := blk_lt HP14_3.out
          have HP15_4 : Aside0 (PartB w4 w3.heap.size none 0 0 none 0 0 false) := ⟨HN4.out⟩
          have hge15 : sz + 2 ≤ w3.heap.size := by have := HF3.out.size; omega
          obtain ⟨g2, hg2⟩ : ∃ g, w3.heap.size = g := ⟨_, rfl⟩
          rw [hg2] at HP15_4 hge15 ⊢
          have hgne : g1 ≠ g2 := by omega
          refine hK.out _ _ (HSF.out _ _ HF4.out) (fun _ => ?_)
          clear hK K hw4 HN4 hs4 HB4
          try simp only [Act.put, pL]
          exact key w4 g1 g2 S2 F1 cF1 L1 cL1 F2 cF2 L2 cL2 ⟨HA4, HF4, HXf4, HXl4, HYf4, HYl4, HP14_4, HP15_4, hge14, hge15, hgne⟩
        · skip
          go_simp
          obtain ⟨w3, hw3, HB3, HN3, hs3⟩ := boxA w2 #[.slice none 0 0, .slice none 0 0, .bool false] 98
          rw [← hw3]
          have HA3 := Aside0.mk (HA2.out.below HB3.out)
          have HF3 := Aside0.mk (HF2.out.trans (Fr.of HB3.out))
          have HXf3 := Aside0.mk (HXf2.out.below HB3.out)
          have HXl3 := Aside0.mk (HXl2.out.below HB3.out)
          have HP14_3 := Aside0.mk (HP14_2.out.below HB3.out)
          have hlt3 := blk_lt HP14_2.out
          have HP15_3 : Aside0 (PartB w3 w2.heap.size none 0 0 none 0 0 false) := ⟨HN3.out⟩
          have hge15 : sz + 2 ≤ w2.heap.size := by have := HF2.out.size; omega
          obtain ⟨g2, hg2⟩ : ∃ g, w2.heap.size = g := ⟨_, rfl⟩
          rw [hg2] at HP15_3 hge15 ⊢
          have hgne : g1 ≠ g2 := by omega
          refine hK.out _ _ (HSF.out _ _ HF3.out) (fun _ => ?_)
          clear hK K hw3 HN3 hs3 HB3
          try simp only [Act.put, pL]
          refine wpAnyH_ready (rs := [13]) (by kernel_rfl) (by simp) ?_
          refine AllReadyH.cons rfl (fun K hK => ?_) AllReadyH.nil
          go_simp
          refine (CY.out _ _ HA3.out HF3.out).mono ?_
          rintro e w4 ⟨S2, hA4, hF4, F2, cF2, L2, cL2, rfl, hf4, hl4⟩
          have HA4 := Aside0.mk hA4
          have HF4 := Aside0.mk (HF3.out.trans hF4)
          have HYf4 := Aside0.mk hf4
          have HYl4 := Aside0.mk hl4
          have HXf4 := Aside0.mk (hF4.ints HXf3.out)
          have HXl4 := Aside0.mk (hF4.ints HXl3.out)
          have HP14_4 : Aside0 (PartB w4 _ none 0 0 none 0 0 false) := ⟨hF4.blk HP14_3.out (HA3.out.not_part HP14_3.out)⟩
          have HP15_4 : Aside0 (PartB w4 _ none 0 0 none 0 0 false) := ⟨hF4.blk HP15_3.out (HA3.out.not_part HP15_3.out)⟩
          refine hK.out _ _ (HSF.out _ _ HF4.out) (fun _ => ?_)
          clear hK K hA4 hF4 hf4 hl4
          try simp only [Act.put, pL]
          exact key w4 g1 g2 S2 F1 cF1 L1 cL1 F2 cF2 L2 cL2 ⟨HA4, HF4, HXf4, HXl4, HYf4, HYl4, HP14_4, HP15_4, hge14, hge15, hgne⟩
      · skip
        go_simp
        obtain ⟨w2, hw2, HB2, HN2, hs2⟩ := boxA w1 #[.slice none 0 0, .slice none 0 0, .bool false] 98
        rw [← hw2]
        have HA2 := Aside0.mk (HA1.out.below HB2.out)
        have HF2 := Aside0.mk (HF1.out.trans (Fr.of HB2.out))
        have HP14_2 := Aside0.mk (HP14_1.out.below HB2.out)
        have hlt2 := blk_lt HP14_1.out
        have HP15_2 : Aside0 (PartB w2 w1.heap.size none 0 0 none 0 0 false) := ⟨HN2.out⟩
        have hge15 : sz + 2 ≤ w1.heap.size := by have := HF1.out.size; omega
        obtain ⟨g2, hg2⟩ : ∃ g, w1.heap.size = g := ⟨_, rfl⟩
        rw [hg2] at HP15_2 hge15 ⊢
        have hgne : g1 ≠ g2 := by omega
        refine hK.out _ _ (HSF.out _ _ HF2.out) (fun _ => ?_)
        clear hK K hw2 HN2 hs2 HB2
        try simp only [Act.put, pL]
        refine wpAnyH_ready (rs := [6]) (by kernel_rfl) (by simp) ?_
        refine AllReadyH.cons rfl (fun K hK => ?_) AllReadyH.nil
        go_simp
        refine (CX.out _ HA2.out HF2.out).mono ?_
        rintro e w3 ⟨S1, hA3, hF3, F1, cF1, L1, cL1, rfl, hf3, hl3⟩
        have HA3 := Aside0.mk hA3
        have HF3 := Aside0.mk (HF2.out.trans hF3)
        have HXf3 := Aside0.mk hf3
        have HXl3 := Aside0.mk hl3
        have HP14_3 : Aside0 (PartB w3 _ none 0 0 none 0 0 false) := ⟨hF3.blk HP14_2.out (HA2.out.not_part HP14_2.out)⟩
        have HP15_3 : Aside0 (PartB w3 _ none 0 0 none 0 0 false) := ⟨hF3.blk HP15_2.out (HA2.out.not_part HP15_2.out)⟩
        refine hK.out _ _ (HSF.out _ _ HF3.out) (fun _ => ?_)
        clear hK K hA3 hF3 hf3 hl3
        try simp only [Act.put, pL]
        refine wpAnyH_ready (rs := [13]) (by kernel_rfl) (by simp) ?_
        refine AllReadyH.cons rfl (fun K hK => ?_) AllReadyH.nil
        go_simp
        refine (CY.out _ _ HA3.out HF3.out).mono ?_
        rintro e w4 ⟨S2, hA4, hF4, F2, cF2, L2, cL2, rfl, hf4, hl4⟩
        have HA4 := Aside0.mk hA4
        have HF4 := Aside0.mk (HF3.out.trans hF4)
        have HYf4 := Aside0.mk hf4
        have HYl4 := Aside0.mk hl4
        have HXf4 := Aside0.mk (hF4.ints HXf3.out)
        have HXl4 := Aside0.mk (hF4.ints HXl3.out)
        have HP14_4 : Aside0 (PartB w4 _ none 0 0 none 0 0 false) := ⟨hF4.blk HP14_3.out (HA3.out.not_part HP14_3.out)⟩
        have HP15_4 : Aside0 (PartB w4 _ none 0 0 none 0 0 false) := ⟨hF4.blk HP15_3.out (HA3.out.not_part HP15_3.out)⟩
        refine hK.out _ _ (HSF.out _ _ HF4.out) (fun _ => ?_)
        clear hK K hA4 hF4 hf4 hl4
        try simp only [Act.put, pL]
        exact key w4 g1 g2 S2 F1 cF1 L1 cL1 F2 cF2 L2 cL2 ⟨HA4, HF4, HXf4, HXl4, HYf4, HYl4, HP14_4, HP15_4, hge14, hge15, hgne⟩
    · skip
      go_simp
      obtain ⟨w1, hw1, HB1, HN1, hs1⟩ := boxA wd #[.slice none 0 0, .slice none 0 0, .bool false] 98
      rw [← hw1]
      have HA1 := Aside0.mk (HAd.out.below HB1.out)
      have HF1 := Aside0.mk (HFd.out.trans (Fr.of HB1.out))
      have HP15_1 : Aside0 (PartB w1 wd.heap.size none 0 0 none 0 0 false) := ⟨HN1.out⟩
      have hge15 : sz + 2 ≤ wd.heap.size := by have := HFd.out.size; omega
      obtain ⟨g2, hg2⟩ : ∃ g, wd.heap.size = g := ⟨_, rfl⟩
      rw [hg2] at HP15_1 hge15 ⊢
      refine hK.out _ _ (HSF.out _ _ HF1.out) (fun _ => ?_)
      clear hK K hw1 HN1 hs1 HB1
      try simp only [Act.put, pL]
      refine wpAnyH_ready (rs := [6, 14]) (by kernel_rfl) (by simp) ?_
      refine AllReadyH.cons rfl (fun K hK => ?_) (AllReadyH.cons rfl (fun K hK => ?_) AllReadyH.nil)
      · skip
        go_simp
        refine (CX.out _ HA1.out HF1.out).mono ?_
        rintro e w2 ⟨S1, hA2, hF2, F1, cF1, L1, cL1, rfl, hf2, hl2⟩
        have HA2 := Aside0.mk hA2
        have HF2 := Aside0.mk (HF1.out.trans hF2)
        have HXf2 := Aside0.mk hf2
        have HXl2 := Aside0.mk hl2
        have HP15_2 : Aside0 (PartB w2 _ none 0 0 none 0 0 false) := ⟨hF2.blk HP15_1.out (HA1.out.not_part HP15_1.out)⟩
        refine hK.out _ _ (HSF.out _ _ HF2.out) (fun _ => ?_)
        clear hK K hA2 hF2 hf2 hl2
        try simp only [Act.put, pL]
        refine wpAnyH_ready (rs := [13, 14]) (by kernel_rfl) (by simp) ?_
        refine AllReadyH.cons rfl (fun K hK => ?_) (AllReadyH.cons rfl (fun K hK => ?_) AllReadyH.nil)
        · skip
          go_simp
          refine (CY.out _ _ HA2.out HF2.out).mono ?_
          rintro e w3 ⟨S2, hA3, hF3, F2, cF2, L2, cL2, rfl, hf3, hl3⟩
          have HA3 := Aside0.mk hA3
          have HF3 := Aside0.mk (HF2.out.trans hF3)
          have HYf3 := Aside0.mk hf3
          have HYl3 := Aside0.mk hl3
          have HXf3 := Aside0.mk (hF3.ints HXf2.out)
          have HXl3 := Aside0.mk (hF3.ints HXl2.out)
          have HP15_3 : Aside0 (PartB w3 _ none 0 0 none 0 0 false) := ⟨hF3.blk HP15_2.out (HA2.out.not_part HP15_2.out)⟩
          refine hK.out _ _ (HSF.out _ _ HF3.out) (fun _ => ?_)
          clear hK K hA3 hF3 hf3 hl3
          try simp only [Act.put, pL]
          refine wpAnyH_ready (rs := [14]) (by kernel_rfl) (by simp) ?_
          refine AllReadyH.cons rfl (fun K hK => ?_) AllReadyH.nil
          go_simp
          obtain ⟨w4, hw4, HB4, HN4, hs4⟩ := boxA w3 #[.slice none 0 0, .slice none 0 0, .bool false] 98
          rw [← hw4]
          have HA4 := Aside0.mk (HA3.out.below HB4.out)
          have HF4 := Aside0.mk (HF3.out.trans (Fr.of HB4.out))
          have HXf4 := Aside0.mk (HXf3.out.below HB4.out)
          have HXl4 := Aside0.mk (HXl3.out.below HB4.out)
          have HYf4 := Aside0.mk (HYf3.out.below HB4.out)
          have HYl4 := Aside0.mk (HYl3.out.below HB4.out)
          have HP15_4 := Aside0.mk (HP15_3.out.below HB4.out)
          have hlt4 := blk_lt HP15_3.out
          have HP14_4 : Aside0 (PartB w4 w3.heap.size none 0 0 none 0 0 false) := ⟨HN4.out⟩
          have hge14 : sz + 2 ≤ w3.heap.size := by have := HF3.out.size; omega
          obtain ⟨g1, hg1⟩ : ∃ g, w3.heap.size = g := ⟨_, rfl⟩
          rw [hg1] at HP14_4 hge14 ⊢
          have hgne : g1 ≠ g2 := by omega
          refine hK.out _ _ (HSF.out _ _ HF4.out) (fun _ => ?_)
          clear hK K hw4 HN4 hs4 HB4
          try simp only [Act.put, pL]
          exact key w4 g1 g2 S2 F1 cF1 L1 cL1 F2 cF2 L2 cL2 ⟨HA4, HF4, HXf4, HXl4, HYf4, HYl4, HP14_4, HP15_4, hge14, hge15, hgne⟩
        · skip
          go_simp
          obtain ⟨w3, hw3, HB3, HN3, hs3⟩ := boxA w2 #[.slice none 0 0, .slice none 0 0, .bool false] 98
          rw [← hw3]
          have HA3 := Aside0.mk (HA2.out.below HB3.out)
          have HF3 := Aside0.mk (HF2.out.trans (Fr.of HB3.out))
          have HXf3 := Aside0.mk (HXf2.out.below HB3.out)
          have HXl3 := Aside0.mk (HXl2.out.below HB3.out)
          have HP15_3 := Aside0.mk (HP15_2.out.below HB3.out)
          have hlt3 := blk_lt HP15_2.out
          have HP14_3 : Aside0 (PartB w3 w2.heap.size none 0 0 none 0 0 false) := ⟨HN3.out⟩
          have hge14 : sz + 2 ≤ w2.heap.size := by have := HF2.out.size; omega
          obtain ⟨g1, hg1⟩ : ∃ g, w2.heap.size = g := ⟨_, rfl⟩
          rw [hg1] at HP14_3 hge14 ⊢
          have hgne : g1 ≠ g2 := by omega
          refine hK.out _ _ (HSF.out _ _ HF3.out) (fun _ => ?_)
          clear hK K hw3 HN3 hs3 HB3
          try simp only [Act.put, pL]
          refine wpAnyH_ready (rs := [13]) (by kernel_rfl) (by simp) ?_
          refine AllReadyH.cons rfl (fun K hK => ?_) AllReadyH.nil
          go_simp
          refine (CY.out _ _ HA3.out HF3.out).mono ?_
          rintro e w4 ⟨S2, hA4, hF4, F2, cF2, L2, cL2, rfl, hf4, hl4⟩
          have HA4 := Aside0.mk hA4
          have HF4 := Aside0.mk (HF3.out.trans hF4)
          have HYf4 := Aside0.mk hf4
          have HYl4 := Aside0.mk hl4
          have HXf4 := Aside0.mk (hF4.ints HXf3.out)
          have HXl4 := Aside0.mk (hF4.ints HXl3.out)
          have HP14_4 : Aside0 (PartB w4 _ none 0 0 none 0 0 false) := ⟨hF4.blk HP14_3.out (HA3.out.not_part HP14_3.out)⟩
          have HP15_4 : Aside0 (PartB w4 _ none 0 0 none 0 0 false) := ⟨hF4.blk HP15_3.out (HA3.out.not_part HP15_3.out)⟩
          refine hK.out _ _ (HSF.out _ _ HF4.out) (fun _ => ?_)
          clear hK K hA4 hF4 hf4 hl4
          try simp only [Act.put, pL]
          exact key w4 g1 g2 S2 F1 cF1 L1 cL1 F2 cF2 L2 cL2 ⟨HA4, HF4, HXf4, HXl4, HYf4, HYl4, HP14_4, HP15_4, hge14, hge15, hgne⟩
      · skip
        go_simp
        obtain ⟨w2, hw2, HB2, HN2, hs2⟩ := boxA w1 #[.slice none 0 0, .slice none 0 0, .bool false] 98
        rw [← hw2]
        have HA2 := Aside0.mk (HA1.out.below HB2.out)
        have HF2 := Aside0.mk (HF1.out.trans (Fr.of HB2.out))
        have HP15_2 := Aside0.mk (HP15_1.out.below HB2.out)
        have hlt2 := blk_lt HP15_1.out
        have HP14_2 : Aside0 (PartB w2 w1.heap.size none 0 0 none 0 0 false) := ⟨HN2.out⟩
        have hge14 : sz + 2 ≤ w1.heap.size := by have := HF1.out.size; omega
        obtain ⟨g1, hg1⟩ : ∃ g, w1.heap.size = g := ⟨_, rfl⟩
        rw [hg1] at HP14_2 hge14 ⊢
        have hgne : g1 ≠ g2 := by omega
        refine hK.out _ _ (HSF.out _ _ HF2.out) (fun _ => ?_)
        clear hK K hw2 HN2 hs2 HB2
        try simp only [Act.put, pL]
        refine wpAnyH_ready (rs := [6]) (by kernel_rfl) (by simp) ?_
        refine AllReadyH.cons rfl (fun K hK => ?_) AllReadyH.nil
        go_simp
        refine (CX.out _ HA2.out HF2.out).mono ?_
        rintro e w3 ⟨S1, hA3, hF3, F1, cF1, L1, cL1, rfl, hf3, hl3⟩
        have HA3 := Aside0.mk hA3
        have HF3 := Aside0.mk (HF2.out.trans hF3)
        have HXf3 := Aside0.mk hf3
        have HXl3 := Aside0.mk hl3
        have HP14_3 : Aside0 (PartB w3 _ none 0 0 none 0 0 false) := ⟨hF3.blk HP14_2.out (HA2.out.not_part HP14_2.out)⟩
        have HP15_3 : Aside0 (PartB w3 _ none 0 0 none 0 0 false) := ⟨hF3.blk HP15_2.out (HA2.out.not_part HP15_2.out)⟩
        refine hK.out _ _ (HSF.out _ _ HF3.out) (fun _ => ?_)
        clear hK K hA3 hF3 hf3 hl3
        try simp only [Act.put, pL]
        refine wpAnyH_ready (rs := [13]) (by kernel_rfl) (by simp) ?_
        refine AllReadyH.cons rfl (fun K hK => ?_) AllReadyH.nil
        go_simp
        refine (CY.out _ _ HA3.out HF3.out).mono ?_
        rintro e w4 ⟨S2, hA4, hF4, F2, cF2, L2, cL2, rfl, hf4, hl4⟩
        have HA4 := Aside0.mk hA4
        have HF4 := Aside0.mk (HF3.out.trans hF4)
        have HYf4 := Aside0.mk hf4
        have HYl4 := Aside0.mk hl4
        have HXf4 := Aside0.mk (hF4.ints HXf3.out)
        have HXl4 := Aside0.mk (hF4.ints HXl3.out)
        have HP14_4 : Aside0 (PartB w4 _ none 0 0 none 0 0 false) := ⟨hF4.blk HP14_3.out (HA3.out.not_part HP14_3.out)⟩
        have HP15_4 : Aside0 (PartB w4 _ none 0 0 none 0 0 false) := ⟨hF4.blk HP15_3.out (HA3.out.not_part HP15_3.out)⟩
        refine hK.out _ _ (HSF.out _ _ HF4.out) (fun _ => ?_)
        clear hK K hA4 hF4 hf4 hl4
        try simp only [Act.put, pL]
        exact key w4 g1 g2 S2 F1 cF1 L1 cL1 F2 cF2 L2 cL2 ⟨HA4, HF4, HXf4, HXl4, HYf4, HYl4, HP14_4, HP15_4, hge14, hge15, hgne⟩
  · skip
    intro W0 g1 g2 S2 F1 cF1 L1 cL1 F2 cF2 L2 cL2 hst
    obtain ⟨HA, HF, HXf, HXl, HYf, HYl, HP1, HP2, hge1, hge2, hgne⟩ := hst
    have HP6w : Aside0 (PartB W0 (sz + 1) none 0 0 none 0 0 false) := ⟨HF.out.blk HP6.out (HNS.out _ (by omega))⟩
    clear CX CY
    obtain ⟨p0, p1, p2, u0, u1, u2⟩ := HP1.out.cells
    refine wpAnyH_ready (rs := [16]) (by kernel_rfl) (by simp) ?_
    refine AllReadyH.cons rfl (fun K hK => ?_) AllReadyH.nil
    go_simp
    obtain ⟨W1, hW1⟩ : ∃ x, x = ((W0.setCell ⟨g1, 0, none⟩ (.slice F1 f1.length cF1)).setCell ⟨g1, 1, none⟩ (.slice L1 l1.length cL1)).setCell ⟨g1, 2, none⟩ (.bool e1) := ⟨_, rfl⟩
    have hbt : Bt g1 W0 W1 := by rw [hW1]; exact Bt.set3 _ _ _ _ _
    have HPn : Aside0 (PartB W1 g1 F1 f1.length cF1 L1 l1.length cL1 e1) := ⟨by rw [hW1]; exact HP1.out.set3⟩
    rw [← hW1]
    have HA1 := Aside0.mk (HA.out.far HP1.out hbt)
    have HF1 := Aside0.mk (HF.out.far hbt (by omega))
    have HXf1 := Aside0.mk (HXf.out.far HP1.out hbt)
    have HXl1 := Aside0.mk (HXl.out.far HP1.out hbt)
    have HYf1 := Aside0.mk (HYf.out.far HP1.out hbt)
    have HYl1 := Aside0.mk (HYl.out.far HP1.out hbt)
    have HP21 : Aside0 (PartB W1 g2 none 0 0 none 0 0 false) := ⟨(hbt.keep g2 (fun e => hgne e.symm)).trans HP2.out⟩
    have HP61 : Aside0 (PartB W1 (sz + 1) none 0 0 none 0 0 false) := ⟨(hbt.keep (sz + 1) (by omega)).trans HP6w.out⟩
    have HP11 := HPn
    refine hK.out _ _ (HSF.out _ _ HF1.out) (fun _ => ?_)
    clear hK K hbt HPn p0 p1 p2 u0 u1 u2 hW1 HA HF HXf HXl HYf HYl HP1 HP2 HP6w
    try simp only [Act.put, pL]
    obtain ⟨p0, p1, p2, u0, u1, u2⟩ := HP21.out.cells
    refine wpAnyH_ready (rs := [17]) (by kernel_rfl) (by simp) ?_
    refine AllReadyH.cons rfl (fun K hK => ?_) AllReadyH.nil
    go_simp
    obtain ⟨W, hW⟩ : ∃ x, x = ((W1.setCell ⟨g2, 0, none⟩ (.slice F2 f2.length cF2)).setCell ⟨g2, 1, none⟩ (.slice L2 l2.length cL2)).setCell ⟨g2, 2, none⟩ (.bool e2) := ⟨_, rfl⟩
    have hbt : Bt g2 W1 W := by rw [hW]; exact Bt.set3 _ _ _ _ _
    have HPn : Aside0 (PartB W g2 F2 f2.length cF2 L2 l2.length cL2 e2) := ⟨by rw [hW]; exact HP21.out.set3⟩
    rw [← hW]
    have HA := Aside0.mk (HA1.out.far HP21.out hbt)
    have HF := Aside0.mk (HF1.out.far hbt (by omega))
    have HXf := Aside0.mk (HXf1.out.far HP21.out hbt)
    have HXl := Aside0.mk (HXl1.out.far HP21.out hbt)
    have HYf := Aside0.mk (HYf1.out.far HP21.out hbt)
    have HYl := Aside0.mk (HYl1.out.far HP21.out hbt)
    have HP1 : Aside0 (PartB W g1 F1 f1.length cF1 L1 l1.length cL1 e1) := ⟨(hbt.keep g1 hgne).trans HP11.out⟩
    have HP6w : Aside0 (PartB W (sz + 1) none 0 0 none 0 0 false) := ⟨(hbt.keep (sz + 1) (by omega)).trans HP61.out⟩
    have HP2 := HPn
    refine hK.out _ _ (HSF.out _ _ HF.out) (fun _ => ?_)
    clear hK K hbt HPn p0 p1 p2 u0 u1 u2 hW HA1 HF1 HXf1 HXl1 HYf1 HYl1 HP11 HP21 HP61 HSF
    try simp only [Act.put, pL]
    refine wpAnyH_done (by kernel_rfl) ?_ _
    go_upto_region 3 with (fail)
    have HSQ : Aside0 (∀ V, Below W.heap.size W V → (fun V : World => (V.cell? ⟨g1, 0, none⟩ = some (.slice F1 f1.length cF1) ∧ V.cell? ⟨g1, 1, none⟩ = some (.slice L1 l1.length cL1) ∧ V.cell? ⟨g1, 2, none⟩ = some (.bool e1)) ∧ (V.cell? ⟨g2, 0, none⟩ = some (.slice F2 f2.length cF2) ∧ V.cell? ⟨g2, 1, none⟩ = some (.slice L2 l2.length cL2) ∧ V.cell? ⟨g2, 2, none⟩ = some (.bool e2))) V) := ⟨fun V hV => by
      obtain ⟨y0, y1, y2, -⟩ := (HP1.out.below hV).cells
      obtain ⟨z0, z1, z2, -⟩ := (HP2.out.below hV).cells
      exact ⟨⟨y0, y1, y2⟩, z0, z1, z2⟩⟩
    have HSQ2 : Aside0 (∀ V : World, V.heap[g1]? = W.heap[g1]? → V.heap[g2]? = W.heap[g2]? → (fun V : World => (V.cell? ⟨g1, 0, none⟩ = some (.slice F1 f1.length cF1) ∧ V.cell? ⟨g1, 1, none⟩ = some (.slice L1 l1.length cL1) ∧ V.cell? ⟨g1, 2, none⟩ = some (.bool e1)) ∧ (V.cell? ⟨g2, 0, none⟩ = some (.slice F2 f2.length cF2) ∧ V.cell? ⟨g2, 1, none⟩ = some (.slice L2 l2.length cL2) ∧ V.cell? ⟨g2, 2, none⟩ = some (.bool e2))) V) := ⟨fun V x1 x2 => by
      obtain ⟨y0, y1, y2, -⟩ := PartB.cells (show PartB V g1 F1 f1.length cF1 L1 l1.length cL1 e1 from x1.trans HP1.out)
      obtain ⟨z0, z1, z2, -⟩ := PartB.cells (show PartB V g2 F2 f2.length cF2 L2 l2.length cL2 e2 from x2.trans HP2.out)
      exact ⟨⟨y0, y1, y2⟩, z0, z1, z2⟩⟩
    have HBd := Aside0.mk (below_drew (Below.refl W.heap.size W))
    have hS : (fun V : World => (V.cell? ⟨g1, 0, none⟩ = some (.slice F1 f1.length cF1) ∧ V.cell? ⟨g1, 1, none⟩ = some (.slice L1 l1.length cL1) ∧ V.cell? ⟨g1, 2, none⟩ = some (.bool e1)) ∧ (V.cell? ⟨g2, 0, none⟩ = some (.slice F2 f2.length cF2) ∧ V.cell? ⟨g2, 1, none⟩ = some (.slice L2 l2.length cL2) ∧ V.cell? ⟨g2, 2, none⟩ = some (.bool e2))) W.drew := HSQ.out _ HBd.out
    refine wp_region_held (S := (fun V : World => (V.cell? ⟨g1, 0, none⟩ = some (.slice F1 f1.length cF1) ∧ V.cell? ⟨g1, 1, none⟩ = some (.slice L1 l1.length cL1) ∧ V.cell? ⟨g1, 2, none⟩ = some (.bool e1)) ∧ (V.cell? ⟨g2, 0, none⟩ = some (.slice F2 f2.length cF2) ∧ V.cell? ⟨g2, 1, none⟩ = some (.slice L2 l2.length cL2) ∧ V.cell? ⟨g2, 2, none⟩ = some (.bool e2)))) (by kernel_rfl) ?_
    change wpAnyH _ _ _ _ _ _ _ _ W.drew
    obtain ⟨v0, hv0⟩ : ∃ x, x = W.drew := ⟨_, rfl⟩
    rw [← hv0] at HBd hS ⊢
    clear hv0
    obtain ⟨e3, he3⟩ : ∃ e, (e1 || e2) = e := ⟨_, rfl⟩
    rw [he3]
    have HE3 := Aside0.mk he3
    clear he3
    first | refine tkU 0 hS ?_ | (refine tkV 0 (v := ?_) hS ?_ ?_; rotate_left 1; · (intro w0 hSw; (try dsimp only at hSw); go_split_ands; go_simp; try with_reducible rfl)) | fail
    try simp only [Act.put, pL]
    first | refine tkU 1 hS ?_ | (refine tkV 1 (v := ?_) hS ?_ ?_; rotate_left 1; · (intro w0 hSw; (try dsimp only at hSw); go_split_ands; go_simp; try with_reducible rfl)) | fail
    try simp only [Act.put, pL]
    first | refine tkU 2 hS ?_ | (refine tkV 2 (v := ?_) hS ?_ ?_; rotate_left 1; · (intro w0 hSw; (try dsimp only at hSw); go_split_ands; go_simp; try with_reducible rfl)) | fail
    try simp only [Act.put, pL]
    first | refine tkU 3 hS ?_ | (refine tkV 3 (v := ?_) hS ?_ ?_; rotate_left 1; · (intro w0 hSw; (try dsimp only at hSw); go_split_ands; go_simp; try with_reducible rfl)) | fail
    try simp only [Act.put, pL]
    first | refine tkU 6 hS ?_ | (refine tkV 6 (v := ?_) hS ?_ ?_; rotate_left 1; · (intro w0 hSw; (try dsimp only at hSw); go_split_ands; go_simp; try with_reducible rfl)) | fail
    try simp only [Act.put, pL]
    first | refine tkU 7 hS ?_ | (refine tkV 7 (v := ?_) hS ?_ ?_; rotate_left 1; · (intro w0 hSw; (try dsimp only at hSw); go_split_ands; go_simp; try with_reducible rfl)) | fail
    try simp only [Act.put, pL]
    first | refine tkU 8 hS ?_ | (refine tkV 8 (v := ?_) hS ?_ ?_; rotate_left 1; · (intro w0 hSw; (try dsimp only at hSw); go_split_ands; go_simp; try with_reducible rfl)) | fail
    try simp only [Act.put, pL]
    first | refine tkU 9 hS ?_ | (refine tkV 9 (v := ?_) hS ?_ ?_; rotate_left 1; · (intro w0 hSw; (try dsimp only at hSw); go_split_ands; go_simp; try with_reducible rfl)) | fail
    try simp only [Act.put, pL]
    first | refine tkU 12 hS ?_ | (refine tkV 12 (v := ?_) hS ?_ ?_; rotate_left 1; · (intro w0 hSw; (try dsimp only at hSw); go_split_ands; go_simp; try with_reducible rfl)) | fail
    try simp only [Act.put, pL]
    first | refine tkU 13 hS ?_ | (refine tkV 13 (v := ?_) hS ?_ ?_; rotate_left 1; · (intro w0 hSw; (try dsimp only at hSw); go_split_ands; go_simp; try with_reducible rfl)) | fail
    try simp only [Act.put, pL]
    clear hS
    refine' join7 (ST := fun (V : World) (C1 : Option Addr) (q1 : Nat) (C2 : Option Addr) (q2 gvf gvl : Nat) => Aside0 (Below W.heap.size W V) ∧ Aside0 (IntsAt V (fun g => W.heap.size ≤ g) C1 (f1 ++ f2)) ∧ Aside0 (IntsAt V (fun g => W.heap.size ≤ g) C2 (l1 ++ l2))) (fun key => ?_) ?_
    rotate_left 1
    · skip
      refine wpAnyH_ready (rs := [4, 10]) (by kernel_rfl) (by simp) ?_
      refine AllReadyH.cons rfl (fun K hK => ?_) (AllReadyH.cons rfl (fun K hK => ?_) AllReadyH.nil)
      · skip
        go_simp
        obtain ⟨v1, hv1, HB1, HG1, hs1⟩ := boxA v0 #[.slice F1 f1.length cF1, .slice F2 f2.length cF2] 71
        rw [← hv1]
        have HV1 := Aside0.mk (HBd.out.trans (HB1.out.mono HBd.out.size))
        refine hK.out _ _ (HSQ.out _ HV1.out) (fun _ => ?_)
        clear hK K hv1 hs1 HB1
        obtain ⟨gvf, hgvf⟩ : ∃ g, v0.heap.size = g := ⟨_, rfl⟩
        rw [hgvf] at HG1 ⊢
        try simp only [Act.put, pL]
        refine wpAnyH_ready (rs := [5, 10]) (by kernel_rfl) (by simp) ?_
        refine AllReadyH.cons rfl (fun K hK => ?_) (AllReadyH.cons rfl (fun K hK => ?_) AllReadyH.nil)
        · skip
          go_simp
          refine (concat2 HG1.out (HXf.out.below HV1.out) (HYf.out.below HV1.out) HLEN.out.1.1 HLEN.out.2.2.1.1 (by have := HLEN.out.1.2; omega) (by have := HLEN.out.2.2.1.2; omega)).mono ?_
          rintro e v2 ⟨C1, q1, rfl, hi2, hb2⟩
          have HI2 : Aside0 (IntsAt v2 (fun g => W.heap.size ≤ g) C1 (f1 ++ f2)) := ⟨hi2.mono (fun g hg _ => Nat.le_trans HV1.out.size hg)⟩
          have HB2 := Aside0.mk hb2
          have HV2 := Aside0.mk (HV1.out.trans (hb2.mono HV1.out.size))
          have HGf_2 := Aside0.mk (blk_below HG1.out HB2.out)
          refine hK.out _ _ (HSQ.out _ HV2.out) (fun _ => ?_)
          clear hK K hi2 hb2 HB2
          try simp only [Act.put, pL]
          refine wpAnyH_ready (rs := [10]) (by kernel_rfl) (by simp) ?_
          refine AllReadyH.cons rfl (fun K hK => ?_) AllReadyH.nil
          go_simp
          obtain ⟨v3, hv3, HB3, HG3, hs3⟩ := boxA v2 #[.slice L1 l1.length cL1, .slice L2 l2.length cL2] 71
          rw [← hv3]
          have HV3 := Aside0.mk (HV2.out.trans (HB3.out.mono HV2.out.size))
          have HGf_3 := Aside0.mk (blk_below HGf_2.out HB3.out)
          have HIf_3 := Aside0.mk (HI2.out.below HB3.out)
          refine hK.out _ _ (HSQ.out _ HV3.out) (fun _ => ?_)
          clear hK K hv3 hs3 HB3
          obtain ⟨gvl, hgvl⟩ : ∃ g, v2.heap.size = g := ⟨_, rfl⟩
          rw [hgvl] at HG3 ⊢
          try simp only [Act.put, pL]
          refine wpAnyH_ready (rs := [11]) (by kernel_rfl) (by simp) ?_
          refine AllReadyH.cons rfl (fun K hK => ?_) AllReadyH.nil
          go_simp
          refine (concat2 HG3.out (HXl.out.below HV3.out) (HYl.out.below HV3.out) HLEN.out.2.1.1 HLEN.out.2.2.2.1 (by have := HLEN.out.2.1.2; omega) (by have := HLEN.out.2.2.2.2; omega)).mono ?_
          rintro e v4 ⟨C2, q2, rfl, hi4, hb4⟩
          have HI4 : Aside0 (IntsAt v4 (fun g => W.heap.size ≤ g) C2 (l1 ++ l2)) := ⟨hi4.mono (fun g hg _ => Nat.le_trans HV3.out.size hg)⟩
          have HB4 := Aside0.mk hb4
          have HV4 := Aside0.mk (HV3.out.trans (hb4.mono HV3.out.size))
          have HGf_4 := Aside0.mk (blk_below HGf_3.out HB4.out)
          have HGl_4 := Aside0.mk (blk_below HG3.out HB4.out)
          have HIf_4 := Aside0.mk (HIf_3.out.below HB4.out)
          refine hK.out _ _ (HSQ.out _ HV4.out) (fun _ => ?_)
          clear hK K hi4 hb4 HB4
          try simp only [Act.put, pL]
          exact key v4 C1 q1 C2 q2 gvf gvl ⟨HV4, HIf_4, HI4⟩
        · skip
          go_simp
          obtain ⟨v2, hv2, HB2, HG2, hs2⟩ := boxA v1 #[.slice L1 l1.length cL1, .slice L2 l2.length cL2] 71
          rw [← hv2]
          have HV2 := Aside0.mk (HV1.out.trans (HB2.out.mono HV1.out.size))
          have HGf_2 := Aside0.mk (blk_below HG1.out HB2.out)
          refine hK.out _ _ (HSQ.out _ HV2.out) (fun _ => ?_)
          clear hK K hv2 hs2 HB2
          obtain ⟨gvl, hgvl⟩ : ∃ g, v1.heap.size = g := ⟨_, rfl⟩
          rw [hgvl] at HG2 ⊢
          try simp only [Act.put, pL]
          refine wpAnyH_ready (rs := [5]) (by kernel_rfl) (by simp) ?_
          refine AllReadyH.cons rfl (fun K hK => ?_) AllReadyH.nil
          go_simp
          refine (concat2 HGf_2.out (HXf.out.below HV2.out) (HYf.out.below HV2.out) HLEN.out.1.1 HLEN.out.2.2.1.1 (by have := HLEN.out.1.2; omega) (by have := HLEN.out.2.2.1.2; omega)).mono ?_
          rintro e v3 ⟨C1, q1, rfl, hi3, hb3⟩
          have HI3 : Aside0 (IntsAt v3 (fun g => W.heap.size ≤ g) C1 (f1 ++ f2)) := ⟨hi3.mono (fun g hg _ => Nat.le_trans HV2.out.size hg)⟩
          have HB3 := Aside0.mk hb3
          have HV3 := Aside0.mk (HV2.out.trans (hb3.mono HV2.out.size))
          have HGf_3 := Aside0.mk (blk_below HGf_2.out HB3.out)
          have HGl_3 := Aside0.mk (blk_below HG2.out HB3.out)
          refine hK.out _ _ (HSQ.out _ HV3.out) (fun _ => ?_)
          clear hK K hi3 hb3 HB3
          try simp only [Act.put, pL]
          refine wpAnyH_ready (rs := [11]) (by kernel_rfl) (by simp) ?_
          refine AllReadyH.cons rfl (fun K hK => ?_) AllReadyH.nil
          go_simp
          refine (concat2 HGl_3.out (HXl.out.below HV3.out) (HYl.out.below HV3.out) HLEN.out.2.1.1 HLEN.out.2.2.2.1 (by have := HLEN.out.2.1.2; omega) (by have := HLEN.out.2.2.2.2; omega)).mono ?_
          rintro e v4 ⟨C2, q2, rfl, hi4, hb4⟩
          have HI4 : Aside0 (IntsAt v4 (fun g => W.heap.size ≤ g) C2 (l1 ++ l2)) := ⟨hi4.mono (fun g hg _ => Nat.le_trans HV3.out.size hg)⟩
          have HB4 := Aside0.mk hb4
          have HV4 := Aside0.mk (HV3.out.trans (hb4.mono HV3.out.size))
          have HGf_4 := Aside0.mk (blk_below HGf_3.out HB4.out)
          have HGl_4 := Aside0.mk (blk_below HGl_3.out HB4.out)
          have HIf_4 := Aside0.mk (HI3.out.below HB4.out)
          refine hK.out _ _ (HSQ.out _ HV4.out) (fun _ => ?_)
          clear hK K hi4 hb4 HB4
          try simp only [Act.put, pL]
          exact key v4 C1 q1 C2 q2 gvf gvl ⟨HV4, HIf_4, HI4⟩
      · skip
        go_simp
        obtain ⟨v1, hv1, HB1, HG1, hs1⟩ := boxA v0 #[.slice L1 l1.length cL1, .slice L2 l2.length cL2] 71
        rw [← hv1]
        have HV1 := Aside0.mk (HBd.out.trans (HB1.out.mono HBd.out.size))
        refine hK.out _ _ (HSQ.out _ HV1.out) (fun _ => ?_)
        clear hK K hv1 hs1 HB1
        obtain ⟨gvl, hgvl⟩ : ∃ g, v0.heap.size = g := ⟨_, rfl⟩
        rw [hgvl] at HG1 ⊢
        try simp only [Act.put, pL]
        refine wpAnyH_ready (rs := [4]) (by kernel_rfl) (by simp) ?_
        refine AllReadyH.cons rfl (fun K hK => ?_) AllReadyH.nil
        go_simp
        obtain ⟨v2, hv2, HB2, HG2, hs2⟩ := boxA v1 #[.slice F1 f1.length cF1, .slice F2 f2.length cF2] 71
        rw [← hv2]
        have HV2 := Aside0.mk (HV1.out.trans (HB2.out.mono HV1.out.size))
        have HGl_2 := Aside0.mk (blk_below HG1.out HB2.out)
        refine hK.out _ _ (HSQ.out _ HV2.out) (fun _ => ?_)
        clear hK K hv2 hs2 HB2
        obtain ⟨gvf, hgvf⟩ : ∃ g, v1.heap.size = g := ⟨_, rfl⟩
        rw [hgvf] at HG2 ⊢
        try simp only [Act.put, pL]
        refine wpAnyH_ready (rs := [5]) (by kernel_rfl) (by simp) ?_
        refine AllReadyH.cons rfl (fun K hK => ?_) AllReadyH.nil
        go_simp
        refine (concat2 HG2.out (HXf.out.below HV2.out) (HYf.out.below HV2.out) HLEN.out.1.1 HLEN.out.2.2.1.1 (by have := HLEN.out.1.2; omega) (by have := HLEN.out.2.2.1.2; omega)).mono ?_
        rintro e v3 ⟨C1, q1, rfl, hi3, hb3⟩
        have HI3 : Aside0 (IntsAt v3 (fun g => W.heap.size ≤ g) C1 (f1 ++ f2)) := ⟨hi3.mono (fun g hg _ => Nat.le_trans HV2.out.size hg)⟩
        have HB3 := Aside0.mk hb3
        have HV3 := Aside0.mk (HV2.out.trans (hb3.mono HV2.out.size))
        have HGf_3 := Aside0.mk (blk_below HG2.out HB3.out)
        have HGl_3 := Aside0.mk (blk_below HGl_2.out HB3.out)
        refine hK.out _ _ (HSQ.out _ HV3.out) (fun _ => ?_)
        clear hK K hi3 hb3 HB3
        try simp only [Act.put, pL]
        refine wpAnyH_ready (rs := [11]) (by kernel_rfl) (by simp) ?_
        refine AllReadyH.cons rfl (fun K hK => ?_) AllReadyH.nil
        go_simp
        refine (concat2 HGl_3.out (HXl.out.below HV3.out) (HYl.out.below HV3.out) HLEN.out.2.1.1 HLEN.out.2.2.2.1 (by have := HLEN.out.2.1.2; omega) (by have := HLEN.out.2.2.2.2; omega)).mono ?_
        rintro e v4 ⟨C2, q2, rfl, hi4, hb4⟩
        have HI4 : Aside0 (IntsAt v4 (fun g => W.heap.size ≤ g) C2 (l1 ++ l2)) := ⟨hi4.mono (fun g hg _ => Nat.le_trans HV3.out.size hg)⟩
        have HB4 := Aside0.mk hb4
        have HV4 := Aside0.mk (HV3.out.trans (hb4.mono HV3.out.size))
        have HGf_4 := Aside0.mk (blk_below HGf_3.out HB4.out)
        have HGl_4 := Aside0.mk (blk_below HGl_3.out HB4.out)
        have HIf_4 := Aside0.mk (HI3.out.below HB4.out)
        refine hK.out _ _ (HSQ.out _ HV4.out) (fun _ => ?_)
        clear hK K hi4 hb4 HB4
        try simp only [Act.put, pL]
        exact key v4 C1 q1 C2 q2 gvf gvl ⟨HV4, HIf_4, HI4⟩
    · skip
      intro V C1 q1 C2 q2 gvf gvl hst
      obtain ⟨HB, HI1, HI2⟩ := hst
      have hS := HSQ.out _ HB.out
      have HP6v := Aside0.mk (HP6w.out.below HB.out)
      have hmv := HB.out.size
      obtain ⟨V1, hV1⟩ : ∃ x, x = ((V.setCell ⟨sz + 1, 0, none⟩ (.slice C1 (f1.length + f2.length) q1)).setCell ⟨sz + 1, 1, none⟩ (.slice C2 (l1.length + l2.length) q2)).setCell ⟨sz + 1, 2, none⟩ (.bool e3) := ⟨_, rfl⟩
      have hbt : Bt (sz + 1) V V1 := by rw [hV1]; exact Bt.set3 _ _ _ _ _
      have HPx : Aside0 (PartB V1 (sz + 1) C1 (f1.length + f2.length) q1 C2 (l1.length + l2.length) q2 e3) := ⟨by rw [hV1]; exact HP6v.out.set3⟩
      have HAx := Aside0.mk ((HA.out.below HB.out).far HP6v.out hbt)
      have HFx := Aside0.mk ((HFc.out.trans (HF.out.trans (Fr.of HB.out))).far hbt (by omega))
      have hSlt : ∀ g, S2 g → g < W.heap.size := fun g hg => (HA.out.lt hg).2
      have HI1x : Aside0 (IntsAt V1 (fun g => ¬ S2 g) C1 (f1 ++ f2)) := ⟨(HI1.out.far HP6v.out hbt).mono (fun g hg _ hs => by have := hSlt g hs; omega)⟩
      have HI2x : Aside0 (IntsAt V1 (fun g => ¬ S2 g) C2 (l1 ++ l2)) := ⟨(HI2.out.far HP6v.out hbt).mono (fun g hg _ hs => by have := hSlt g hs; omega)⟩
      have hS1 := HSQ2.out V1 ((hbt.keep g1 (by omega)).trans (HB.out.block g1 (blk_lt HP1.out))) ((hbt.keep g2 (by omega)).trans (HB.out.block g2 (blk_lt HP2.out)))
      have HW := Aside0.mk hV1.symm
      clear hV1 hbt hSlt HI1 HI2
      obtain ⟨p0, p1, p2, u0, u1, u2⟩ := HP6v.out.cells
      cases e1 <;> cases e2 <;> cases e3 <;> first | exact absurd HE3.out (by decide) | skip
      all_goals
        skip
        first | refine tkU 14 hS ?_ | (refine tkV 14 (v := ?_) hS ?_ ?_; rotate_left 1; · (intro w0 hSw; (try dsimp only at hSw); go_split_ands; go_simp; try with_reducible rfl)) | fail
        try simp only [Act.put, pL]
        first | refine tkU 15 hS ?_ | (refine tkV 15 (v := ?_) hS ?_ ?_; rotate_left 1; · (intro w0 hSw; (try dsimp only at hSw); go_split_ands; go_simp; try with_reducible rfl)) | fail
        try simp only [Act.put, pL]
        first | refine tkU 16 hS ?_ | (refine tkV 16 (v := ?_) hS ?_ ?_; rotate_left 1; · (intro w0 hSw; (try dsimp only at hSw); go_split_ands; go_simp; try with_reducible rfl)) | fail
        try simp only [Act.put, pL]
        first | refine tkU 17 hS ?_ | (refine tkV 17 (v := ?_) hS ?_ ?_; rotate_left 1; · (intro w0 hSw; (try dsimp only at hSw); go_split_ands; go_simp; try with_reducible rfl)) | fail
        try simp only [Act.put, pL]
        first | refine tkU 18 hS ?_ | (refine tkV 18 (v := ?_) hS ?_ ?_; rotate_left 1; · (intro w0 hSw; (try dsimp only at hSw); go_split_ands; go_simp; try with_reducible rfl)) | fail
        try simp only [Act.put, pL]
        refine wpAnyH_ready (rs := [19]) (by kernel_rfl) (by simp) ?_
        refine AllReadyH.cons rfl (fun K hK => ?_) AllReadyH.nil
        go_simp
        rw [HW.out]
        refine hK.out _ _ hS1 (fun _ => ?_)
        clear hK K hS hS1 p0 p1 p2 u0 u1 u2 HW
        try simp only [Act.put, pL]
        refine wpAnyH_done (by kernel_rfl) ?_ _
        obtain ⟨z0, z1, z2, -⟩ := HPx.out.cells
        go_wp2_with fail
        refine bodyPost_ret (by simp [results, Tryd.results97, go_sem, z0, z1, z2]; try rfl) rfl ?_
        exact ⟨S2, HAx.out, HFx.out, C1, q1, C2, q2, by rw [List.length_append, List.length_append], HI1x.out, HI2x.out⟩
end Go.Proofs.YtbaegfjoionojaaDoor.Qa
