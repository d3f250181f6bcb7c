/- The walk of two, at a sequence, back. -/
import Derived.Test.YtbaegfjoionojaaDoorQaOa
set_option linter.unusedSimpArgs false
set_option linter.unusedVariables false
namespace Go.Proofs.YtbaegfjoionojaaDoor.Qa
open Go Go.RowKit Go.Proofs.YtbaegfjoionojaaDoor.Qy Go.Proofs.YtbaegfjoionojaaDoor.Tm Go.Proofs.YtbaegfjoionojaaDoorW.PrintWords

section
variable {w : World} {B : Nat} {F L : Option Addr} {f cF l cL : Nat} {em : Bool}
theorem PartB.put0 (h : PartB w B F f cF L l cL em) (F' : Option Addr) (f' cF' : Nat) : PartB (w.setCell ⟨B, 0, none⟩ (.slice F' f' cF')) B F' f' cF' L l cL em := blk_set h 0 _
theorem PartB.put1 (h : PartB w B F f cF L l cL em) (L' : Option Addr) (l' cL' : Nat) : PartB (w.setCell ⟨B, 1, none⟩ (.slice L' l' cL')) B F f cF L' l' cL' em := blk_set h 1 _
end
set_option maxRecDepth 100000 in
set_option maxHeartbeats 16000000 in
theorem two_seq_t (r s : Rx) (hr : BuildC r) (hs : BuildC s) (w : World) (N b : Nat) (al : List Alng) (bh : List (List Nat)) (S : Nat → Prop) (h : Aut w N b al bh S) (hN : N ≤ w.heap.size) (k : Int) (t : ByteArray) (A : Option Addr) (n c : Nat) (B : Option Addr) (m d : Nat)
    (hp : PathAt w (fun g => ¬ S g) (Rx.seq r s).p [.int .i64 k, .string t, .slice A n c, .slice B m d]) (hb : Bd (Rx.seq r s) al bh) :
    Calls Tryd.prog 97 #[.pointer (some ⟨b, 0, none⟩), .agg #[.int .i64 k, .string t, .slice A n c, .slice B m d], .bool true] w (PartP N b (al ++ ((Rx.seq r s).lay true).lv) (((Rx.seq r s).lay true).bf al.length bh) (((Rx.seq r s).lay true).fi al.length) (((Rx.seq r s).lay true).la al.length) ((Rx.seq r s).lay true).nl S w) := by
  obtain ⟨A9, c9, B9, d9, e0, -, -, -, -, hks⟩ := p_cells (k := 3) hp
  simp only [List.cons.injEq, Value.int.injEq, Value.string.injEq, Value.slice.injEq, true_and, and_true, List.length_nil, List.length_cons, Nat.zero_add, Nat.reduceAdd] at e0
  obtain ⟨rfl, rfl, ⟨rfl, rfl, rfl⟩, rfl, rfl, rfl⟩ := e0
  obtain ⟨wb, hwb, HB, HN, hsb⟩ := boxA w #[.int .i64 3, .string ⟨#[]⟩, .slice A 0 c, .slice B 2 d] 25
  obtain ⟨wc, hwc, HB2, HN2, hsc⟩ := boxA wb #[.slice none 0 0, .slice none 0 0, .bool false] 98
  have HW1 := Aside0.mk hwb.symm
  have HW2 := Aside0.mk hwc.symm
  have HBc := Aside0.mk (HB.out.trans (HB2.out.mono HB.out.size))
  have HAc := Aside0.mk (h.below HBc.out)
  have HFc : Aside0 (Fr S w S wc) := ⟨Fr.of HBc.out⟩
  have HN1 := Aside0.mk (blk_below HN.out HB2.out)
  rw [hsb] at HN2
  have hsS : ∀ g, S g → g < w.heap.size := fun g hg => (h.lt hg).2
  have hwn : w.heap.size ≤ wc.heap.size := HBc.out.size
  have hks2 := HFc.out.kids hks
  obtain ⟨sz, hsz⟩ : ∃ n, w.heap.size = n := ⟨_, rfl⟩
  rw [hsz] at HN1 HN2 hsb hN hsS hwn
  have HNS : Aside0 (∀ g, sz ≤ g → ¬ S g) := ⟨fun g hg hs => by have := hsS g hs; omega⟩
  have hszc : wc.heap.size = sz + 2 := by omega
  obtain ⟨kb, ko, k0, t0, A0, n0, c0, B0, m0, d0, k1, t1, A1, n1, c1, B1, m1, d1, rfl, hkS, hq0, hq1, ⟨a00, a01, a02, a03⟩, a10, a11, a12, a13⟩ := two_cells hks2
  have HQ0 := Aside0.mk hq0
  have HQ1 := Aside0.mk hq1
  have hkl : kb < wc.heap.size := World.block_lt_of_cell? wc _ a00
  have HSF : Aside0 (∀ W S', Fr S wc S' W → (fun W : World => (W.cell? ⟨sz, 3, none⟩ = some (.slice (some ⟨kb, ko, none⟩) 2 d)) ∧ (W.cell? ⟨kb, ko, none⟩ = some (.int .i64 k0) ∧ W.cell? ⟨kb, ko + 1, none⟩ = some (.string t0) ∧ W.cell? ⟨kb, ko + 2, none⟩ = some (.slice A0 n0 c0) ∧ W.cell? ⟨kb, ko + 3, none⟩ = some (.slice B0 m0 d0)) ∧ (W.cell? ⟨kb, ko + 4, none⟩ = some (.int .i64 k1) ∧ W.cell? ⟨kb, ko + 5, none⟩ = some (.string t1) ∧ W.cell? ⟨kb, ko + 6, none⟩ = some (.slice A1 n1 c1) ∧ W.cell? ⟨kb, ko + 7, none⟩ = some (.slice B1 m1 d1))) W) := ⟨fun W S' hF => by
    have e1 : W.heap[sz]? = _ := hF.blk HN1.out (HNS.out sz (Nat.le_refl _))
    have e2 : ∀ (j : Nat) u, wc.cell? ⟨kb, j, none⟩ = some u → W.cell? ⟨kb, j, none⟩ = some u := fun j u hu => (World.cell?_of_block (hF.keep kb hkl hkS)).trans hu
    exact ⟨(blk_cell e1 3).trans rfl, ⟨e2 _ _ a00, e2 _ _ a01, e2 _ _ a02, e2 _ _ a03⟩, e2 _ _ a10, e2 _ _ a11, e2 _ _ a12, e2 _ _ a13⟩⟩
  have HK0 := Aside0.mk ((blk_cell HN1.out 0).trans rfl : wc.cell? ⟨sz, 0, none⟩ = some (.int .i64 3))
  have HP6 : Aside0 (PartB wc (sz + 1) none 0 0 none 0 0 false) := ⟨HN2.out⟩
  clear hp hks hks2 hwb hwc HB HN HB2 HN2 hsb hsc a00 a01 a02 a03 a10 a11 a12 a13 hq0 hq1 h hsS HBc
  obtain ⟨hbr, hbs⟩ := hb.two (r := s) (s := r) (by show s.sz + r.sz + 1 ≤ r.sz + s.sz + 1; omega) true
  have hbq := hb
  obtain ⟨X, hX⟩ : ∃ e, s.lay true = e := ⟨_, rfl⟩
  obtain ⟨Y, hY⟩ : ∃ e, r.lay true = e := ⟨_, rfl⟩
  have hlay : (Rx.seq r s).lay true = .seq X Y := by rw [← hX, ← hY]; rfl
  have hXs : X.n ≤ 30 := by have h1 := X.n_sz; have h2 := s.lay_sz true; have h3 := hbr.1; rw [hX] at h2; omega
  have hYs : Y.n ≤ 30 := by have h1 := Y.n_sz; have h2 := r.lay_sz true; have h3 := hbs.1; rw [hY] at h2; omega
  have hxz : X.sz + Y.sz + 1 ≤ (Rx.seq r s).sz := by have h1 := s.lay_sz true; have h2 := r.lay_sz true; rw [hX] at h1; rw [hY] at h2; show _ ≤ r.sz + s.sz + 1; omega
  rw [hlay]
  rw [hX] at hbs
  obtain ⟨al1, hal1⟩ : ∃ l, al ++ X.lv = l := ⟨_, rfl⟩
  obtain ⟨bh1, hbh1⟩ : ∃ l, X.bf al.length bh = l := ⟨_, rfl⟩
  have hl1 : al1.length = al.length + X.n := by rw [← hal1, List.length_append]; rfl
  obtain ⟨al2, hal2⟩ : ∃ l, al1 ++ Y.lv = l := ⟨_, rfl⟩
  obtain ⟨bh2, hbh2⟩ : ∃ l, Y.bf al1.length bh1 = l := ⟨_, rfl⟩
  obtain ⟨f1, hf1⟩ : ∃ l, X.fi al.length = l := ⟨_, rfl⟩
  obtain ⟨l1, hl1'⟩ : ∃ l, X.la al.length = l := ⟨_, rfl⟩
  obtain ⟨f2, hf2⟩ : ∃ l, Y.fi al1.length = l := ⟨_, rfl⟩
  obtain ⟨l2, hl2'⟩ : ∃ l, Y.la al1.length = l := ⟨_, rfl⟩
  obtain ⟨e1, he1⟩ : ∃ l, X.nl = l := ⟨_, rfl⟩
  obtain ⟨e2, he2⟩ : ∃ l, Y.nl = l := ⟨_, rfl⟩
  have HEND : Aside0 (al ++ (Lx.seq X Y).lv = al2 ∧ (Lx.seq X Y).bf al.length bh = addTo bh2 l1 f2 ∧ (Lx.seq X Y).fi al.length = (if e1 = true then f1 ++ f2 else f1) ∧ (Lx.seq X Y).la al.length = (if e2 = true then l1 ++ l2 else l2) ∧ (Lx.seq X Y).nl = (e1 && e2)) := ⟨by
    refine ⟨?_, ?_, ?_, ?_, ?_⟩
    · rw [← hal2, ← hal1]; simp [Lx.lv]
    · rw [← hbh2, ← hbh1, ← hl1', ← hf2, hl1]; rfl
    · rw [← hf1, ← hf2, hl1, ← he1]; rfl
    · rw [← hl1', ← hl2', hl1, ← he2]; rfl
    · rw [← he1, ← he2]; rfl⟩
  have hlf1 : 0 < f1.length ∧ f1.length ≤ 30 := by rw [← hf1]; have := X.fi_len al.length; omega
  have hll1 : 0 < l1.length ∧ l1.length ≤ 30 := by rw [← hl1']; have := X.la_len al.length; omega
  have hlf2 : 0 < f2.length ∧ f2.length ≤ 30 := by rw [← hf2]; have := Y.fi_len al1.length; omega
  have hll2 : 0 < l2.length ∧ l2.length ≤ 30 := by rw [← hl2']; have := Y.la_len al1.length; omega
  have hb2l : bh2.length = al.length + 1 + X.n + Y.n := by rw [← hbh2, Lx.bf_length, ← hbh1, Lx.bf_length, hbq.2.2.1]
  have hb2r : ∀ i, (bh2.getD i []).length ≤ 60000 := fun i => by
    have h1 := X.bf_len i al.length bh (by have := hbq.1; omega)
    have h2 := Y.bf_len i al1.length bh1 (by have := hbq.1; omega)
    have h3 := hbq.2.2.2 i
    rw [hbh1] at h1
    rw [hbh2] at h2
    omega
  have hlb : ∀ n ∈ l1, n < bh2.length := fun n hn => by
    rw [← hl1'] at hn
    have := X.la_in al.length n hn
    unfold In at this
    omega
  have hb2m : bh2.length ≤ 1001 := by have := hbq.2.1; have := hbq.1; omega
  have CX : Aside0 (∀ W, Aut W N b al bh S → Fr S wc S W → Calls Tryd.prog 66 #[.pointer (some ⟨b, 0, none⟩), .agg #[.int .i64 k1, .string t1, .slice A1 n1 c1, .slice B1 m1 d1], .bool true] W (PartP N b al1 bh1 f1 l1 e1 S W)) := ⟨fun W hA hF => by
    have := hs true W N b al bh S hA (by have := hF.size; omega) k1 t1 A1 n1 c1 B1 m1 d1 (hF.path HQ1.out) hbr
    rwa [hX, hal1, hbh1, hf1, hl1', he1] at this⟩
  have CY : Aside0 (∀ W S1, Aut W N b al1 bh1 S1 → Fr S wc S1 W → Calls Tryd.prog 66 #[.pointer (some ⟨b, 0, none⟩), .agg #[.int .i64 k0, .string t0, .slice A0 n0 c0, .slice B0 m0 d0], .bool true] W (PartP N b al2 bh2 f2 l2 e2 S1 W)) := ⟨fun W S1 hA hF => by
    have := hr true W N b al1 bh1 S1 hA (by have := hF.size; omega) k0 t0 A0 n0 c0 B0 m0 d0 (hF.path HQ0.out) (by rw [hal1, hbh1] at hbs; exact hbs)
    rwa [hY, hal2, hbh2, hf2, hl2', he2] at this⟩
  have CJ : Aside0 (∀ W S2 L1 cL1 F2 cF2, Aut W N b al2 bh2 S2 → N ≤ W.heap.size → IntsAt W (fun g => ¬ S2 g) L1 l1 → IntsAt W (fun g => ¬ S2 g) F2 f2 → Calls Tryd.prog 98 #[.pointer (some ⟨b, 0, none⟩), .slice L1 l1.length cL1, .slice F2 f2.length cF2] W (JoinP N b al2 (addTo bh2 l1 f2) S2 W)) := ⟨fun W S2 L1 cL1 F2 cF2 hA hN h1 h2 => joins_any W N b al2 bh2 S2 hA L1 l1 cL1 F2 f2 cF2 h1 h2 hlf2.1 hlb hll1.2 hlf2.2 hb2r hb2m⟩
  have HLEN := Aside0.mk (And.intro hlf1 (And.intro hll1 (And.intro hlf2 hll2)))
  rw [HEND.out.1, HEND.out.2.1, HEND.out.2.2.1, HEND.out.2.2.2.1, HEND.out.2.2.2.2]
  clear hbr hbs hX hY hlay hXs hYs hal1 hbh1 hl1 hal2 hbh2 hf1 hl1' hf2 hl2' he1 he2 hlf1 hll1 hlf2 hll2 hb hr hs HEND HQ0 HQ1 hbq hxz hb2l hb2r hlb hb2m
  go_enter Tryd.func97, Tryd.ntmps97
  go_upto_region 1 with (fail)
  rw [HW1.out, HW2.out]
  clear HW1 HW2
  have q0 := HK0.out
  go_upto_region 7 with (fail)
  clear q0 HK0
  obtain ⟨qs, ⟨a0, a1, a2, a3⟩, a4, a5, a6, a7⟩ := HSF.out wc S (Fr.refl _ _)
  have HFz : Aside0 (Fr S wc S wc) := ⟨Fr.refl _ _⟩
  have hNc : N ≤ wc.heap.size := by omega
  go_upto_region 8 with (go_at_call 66; (with_reducible refine (CX.out _ HAc.out HFz.out).mono ?_); rintro e w1 ⟨S1, hA, hF, F1, cF1, L1, cL1, rfl, hf, hl⟩; have HAq1 := Aside0.mk hA; have HFq1 := Aside0.mk hF; have HIf1 := Aside0.mk hf; have HIl1 := Aside0.mk hl; clear hA hF hf hl; obtain ⟨w2, hw2, HBa, HNa, hsa⟩ := boxA w1 #[.slice F1 f1.length cF1, .slice L1 l1.length cL1, .bool e1] 98; have HPa : Aside0 (PartB w2 w1.heap.size F1 f1.length cF1 L1 l1.length cL1 e1) := ⟨HNa.out⟩; have HWa := Aside0.mk hw2.symm; clear hw2 hsa HNa)
  rw [HWa.out]
  clear HWa qs a0 a1 a2 a3 a4 a5 a6 a7
  have HA_1 := Aside0.mk HAq1.out
  have HF_1 := Aside0.mk (HFz.out.trans HFq1.out)
  have HPr_1 : Aside0 (PartB w1 (sz + 1) none 0 0 none 0 0 false) := ⟨HFq1.out.blk HP6.out (HAc.out.not_part HP6.out)⟩
  have HA_2 := Aside0.mk (HA_1.out.below HBa.out)
  have HF_2 := Aside0.mk (HF_1.out.trans (Fr.of HBa.out))
  have HPr_2 := Aside0.mk (HPr_1.out.below HBa.out)
  have HIf1_2 := Aside0.mk (HIf1.out.below HBa.out)
  have HIl1_2 := Aside0.mk (HIl1.out.below HBa.out)
  have hge1 : sz + 2 ≤ w1.heap.size := by have := HF_1.out.size; omega
  obtain ⟨g1, hg1⟩ : ∃ g, w1.heap.size = g := ⟨_, rfl⟩
  rw [hg1] at HPa hge1 ⊢
  have hw12 := HBa.out.size
  clear HBa HAq1 HFq1 hg1 HIf1 HIl1 HA_1 HF_1 HPr_1
  obtain ⟨qs, ⟨a0, a1, a2, a3⟩, a4, a5, a6, a7⟩ := HSF.out w2 S1 HF_2.out
  go_upto_region 9 with (go_at_call 66; (with_reducible refine (CY.out _ _ HA_2.out HF_2.out).mono ?_); rintro e w3 ⟨S2, hA, hF, F2, cF2, L2, cL2, rfl, hf, hl⟩; have HAq2 := Aside0.mk hA; have HFq2 := Aside0.mk hF; have HIf2 := Aside0.mk hf; have HIl2 := Aside0.mk hl; clear hA hF hf hl; obtain ⟨w4, hw4, HBb, HNb, hsb⟩ := boxA w3 #[.slice F2 f2.length cF2, .slice L2 l2.length cL2, .bool e2] 98; have HPb : Aside0 (PartB w4 w3.heap.size F2 f2.length cF2 L2 l2.length cL2 e2) := ⟨HNb.out⟩; have HWb := Aside0.mk hw4.symm; clear hw4 hsb HNb)
  rw [HWb.out]
  clear HWb qs a0 a1 a2 a3 a4 a5 a6 a7
  have HA_3 := Aside0.mk HAq2.out
  have HF_3 := Aside0.mk (HF_2.out.trans HFq2.out)
  have HPr_3 : Aside0 (PartB w3 (sz + 1) none 0 0 none 0 0 false) := ⟨HFq2.out.blk HPr_2.out (HA_2.out.not_part HPr_2.out)⟩
  have HPg1_3 : Aside0 (PartB w3 g1 F1 f1.length cF1 L1 l1.length cL1 e1) := ⟨HFq2.out.blk HPa.out (HA_2.out.not_part HPa.out)⟩
  have HIf1_3 := Aside0.mk (HFq2.out.ints HIf1_2.out)
  have HIl1_3 := Aside0.mk (HFq2.out.ints HIl1_2.out)
  have HA_4 := Aside0.mk (HA_3.out.below HBb.out)
  have HF_4 := Aside0.mk (HF_3.out.trans (Fr.of HBb.out))
  have HPr_4 := Aside0.mk (HPr_3.out.below HBb.out)
  have HPg1_4 := Aside0.mk (HPg1_3.out.below HBb.out)
  have HIf1_4 := Aside0.mk (HIf1_3.out.below HBb.out)
  have HIl1_4 := Aside0.mk (HIl1_3.out.below HBb.out)
  have HIf2_4 := Aside0.mk (HIf2.out.below HBb.out)
  have HIl2_4 := Aside0.mk (HIl2.out.below HBb.out)
  have hge2 : sz + 2 ≤ w3.heap.size := by have := HF_3.out.size; omega
  have hgne : g1 < w3.heap.size := blk_lt HPg1_3.out
  obtain ⟨g2, hg2⟩ : ∃ g, w3.heap.size = g := ⟨_, rfl⟩
  rw [hg2] at HPb hge2 hgne ⊢
  clear HBb HAq2 HFq2 hg2 HIf2 HIl2 HA_3 HF_3 HPr_3 HPg1_3 HIf1_3 HIl1_3 CX CY HSF
  clear HA_2 HF_2 HPr_2 HPa HIf1_2 HIl1_2
  obtain ⟨p0, p1, p2, -⟩ := HPg1_4.out.cells
  obtain ⟨q0, q1, q2, -⟩ := HPb.out.cells
  have hN4 : N ≤ w4.heap.size := by have := HF_4.out.size; omega
  go_upto_region 10 with (go_at_call 98; (with_reducible refine (CJ.out _ _ _ _ _ _ HA_4.out hN4 HIl1_4.out HIf2_4.out).mono ?_); rintro e w5 ⟨rfl, S3, hA, hF⟩; have HAq3 := Aside0.mk hA; have HFq3 := Aside0.mk hF; clear hA hF p0 p1 p2 q0 q1 q2)
  have HA_5 := Aside0.mk HAq3.out
  have HF_5 := Aside0.mk (HF_4.out.trans HFq3.out)
  have HPr_5 : Aside0 (PartB w5 (sz + 1) none 0 0 none 0 0 false) := ⟨HFq3.out.blk HPr_4.out (HA_4.out.not_part HPr_4.out)⟩
  have HPg1_5 : Aside0 (PartB w5 g1 F1 f1.length cF1 L1 l1.length cL1 e1) := ⟨HFq3.out.blk HPg1_4.out (HA_4.out.not_part HPg1_4.out)⟩
  have HPg2_5 : Aside0 (PartB w5 g2 F2 f2.length cF2 L2 l2.length cL2 e2) := ⟨HFq3.out.blk HPb.out (HA_4.out.not_part HPb.out)⟩
  have HIf1_5 := Aside0.mk (HFq3.out.ints HIf1_4.out)
  have HIl1_5 := Aside0.mk (HFq3.out.ints HIl1_4.out)
  have HIf2_5 := Aside0.mk (HFq3.out.ints HIf2_4.out)
  have HIl2_5 := Aside0.mk (HFq3.out.ints HIl2_4.out)
  clear HAq3 HFq3 CJ hN4
  clear HA_4 HF_4 HPr_4 HPg1_4 HPb HIf1_4 HIl1_4 HIf2_4 HIl2_4
  cases e1 <;> cases e2
  · skip
    obtain ⟨p0, p1, p2, -⟩ := HPg1_5.out.cells
    obtain ⟨q0, q1, q2, -⟩ := HPg2_5.out.cells
    obtain ⟨w6, hw6, HBc, HNc, hsc⟩ := boxA w5 #[.slice F1 f1.length cF1, .slice L2 l2.length cL2, .bool false] 98
    have HPc : Aside0 (PartB w6 w5.heap.size F1 f1.length cF1 L2 l2.length cL2 false) := ⟨HNc.out⟩
    have HWc := Aside0.mk hw6.symm
    clear hw6 hsc HNc
    go_upto_region 11 with (fail)
    rw [HWc.out]
    clear HWc p0 p1 p2 q0 q1 q2
    have HA_6 := Aside0.mk (HA_5.out.below HBc.out)
    have HF_6 := Aside0.mk (HF_5.out.trans (Fr.of HBc.out))
    have HPr_6 := Aside0.mk (HPr_5.out.below HBc.out)
    have HPg1_6 := Aside0.mk (HPg1_5.out.below HBc.out)
    have HPg2_6 := Aside0.mk (HPg2_5.out.below HBc.out)
    have HIf1_6 := Aside0.mk (HIf1_5.out.below HBc.out)
    have HIl1_6 := Aside0.mk (HIl1_5.out.below HBc.out)
    have HIf2_6 := Aside0.mk (HIf2_5.out.below HBc.out)
    have HIl2_6 := Aside0.mk (HIl2_5.out.below HBc.out)
    have hge3 : sz + 2 ≤ w5.heap.size := by have := HF_5.out.size; omega
    have h13 : g1 < w5.heap.size := blk_lt HPg1_5.out
    have h23 : g2 < w5.heap.size := blk_lt HPg2_5.out
    obtain ⟨g3, hg3⟩ : ∃ g, w5.heap.size = g := ⟨_, rfl⟩
    rw [hg3] at HPc hge3 h13 h23 ⊢
    clear HBc hg3
    clear HA_5 HF_5 HPr_5 HPg1_5 HPg2_5 HIf1_5 HIl1_5 HIf2_5 HIl2_5
    obtain ⟨-, -, p2, -⟩ := HPg1_6.out.cells
    go_upto_region 13 with (fail)
    clear p2
    obtain ⟨-, -, q2, -⟩ := HPg2_6.out.cells
    go_upto_region 15 with (fail)
    clear q2
    obtain ⟨z0, z1, z2, -⟩ := HPc.out.cells
    obtain ⟨p0, p1, p2, u0, u1, u2⟩ := HPr_6.out.cells
    obtain ⟨wx, hwx⟩ : ∃ x, x = ((w6.setCell ⟨sz + 1, 0, none⟩ (.slice F1 f1.length cF1)).setCell ⟨sz + 1, 1, none⟩ (.slice L2 l2.length cL2)).setCell ⟨sz + 1, 2, none⟩ (.bool false) := ⟨_, rfl⟩
    have hbt : Bt (sz + 1) w6 wx := by rw [hwx]; exact Bt.set3 _ _ _ _ _
    have HW := Aside0.mk hwx.symm
    have HA_7 := Aside0.mk (HA_6.out.far HPr_6.out hbt)
    have HF_7 := Aside0.mk ((HFc.out.trans HF_6.out).far hbt (by omega))
    have HPr_7 : Aside0 (PartB wx (sz + 1) F1 f1.length cF1 L2 l2.length cL2 false) := ⟨by rw [hwx]; exact HPr_6.out.set3⟩
    have HPg1_7 : Aside0 (PartB wx g1 F1 f1.length cF1 L1 l1.length cL1 false) := ⟨(hbt.keep g1 (by omega)).trans HPg1_6.out⟩
    have HPg2_7 : Aside0 (PartB wx g2 F2 f2.length cF2 L2 l2.length cL2 false) := ⟨(hbt.keep g2 (by omega)).trans HPg2_6.out⟩
    have HPg3_7 : Aside0 (PartB wx g3 F1 f1.length cF1 L2 l2.length cL2 false) := ⟨(hbt.keep g3 (by omega)).trans HPc.out⟩
    have HIf1_7 := Aside0.mk (HIf1_6.out.far HPr_6.out hbt)
    have HIl1_7 := Aside0.mk (HIl1_6.out.far HPr_6.out hbt)
    have HIf2_7 := Aside0.mk (HIf2_6.out.far HPr_6.out hbt)
    have HIl2_7 := Aside0.mk (HIl2_6.out.far HPr_6.out hbt)
    clear hwx hbt
    go_wp2_with fail
    rw [HW.out]
    clear z0 z1 z2 p0 p1 p2 u0 u1 u2 HW
    obtain ⟨z0, z1, z2, -⟩ := HPr_7.out.cells
    refine bodyPost_ret (by simp [results, Tryd.results97, go_sem, z0, z1, z2]; try rfl) rfl ?_
    exact ⟨S3, HA_7.out, HF_7.out, F1, cF1, L2, cL2, by simp, HIf1_7.out, HIl2_7.out⟩
  · skip
    obtain ⟨p0, p1, p2, -⟩ := HPg1_5.out.cells
    obtain ⟨q0, q1, q2, -⟩ := HPg2_5.out.cells
    obtain ⟨w6, hw6, HBc, HNc, hsc⟩ := boxA w5 #[.slice F1 f1.length cF1, .slice L2 l2.length cL2, .bool false] 98
    have HPc : Aside0 (PartB w6 w5.heap.size F1 f1.length cF1 L2 l2.length cL2 false) := ⟨HNc.out⟩
    have HWc := Aside0.mk hw6.symm
    clear hw6 hsc HNc
    go_upto_region 11 with (fail)
    rw [HWc.out]
    clear HWc p0 p1 p2 q0 q1 q2
    have HA_8 := Aside0.mk (HA_5.out.below HBc.out)
    have HF_8 := Aside0.mk (HF_5.out.trans (Fr.of HBc.out))
    have HPr_8 := Aside0.mk (HPr_5.out.below HBc.out)
    have HPg1_8 := Aside0.mk (HPg1_5.out.below HBc.out)
    have HPg2_8 := Aside0.mk (HPg2_5.out.below HBc.out)
    have HIf1_8 := Aside0.mk (HIf1_5.out.below HBc.out)
    have HIl1_8 := Aside0.mk (HIl1_5.out.below HBc.out)
    have HIf2_8 := Aside0.mk (HIf2_5.out.below HBc.out)
    have HIl2_8 := Aside0.mk (HIl2_5.out.below HBc.out)
    have hge3 : sz + 2 ≤ w5.heap.size := by have := HF_5.out.size; omega
    have h13 : g1 < w5.heap.size := blk_lt HPg1_5.out
    have h23 : g2 < w5.heap.size := blk_lt HPg2_5.out
    obtain ⟨g3, hg3⟩ : ∃ g, w5.heap.size = g := ⟨_, rfl⟩
    rw [hg3] at HPc hge3 h13 h23 ⊢
    clear HBc hg3
    clear HA_5 HF_5 HPr_5 HPg1_5 HPg2_5 HIf1_5 HIl1_5 HIf2_5 HIl2_5
    obtain ⟨-, -, p2, -⟩ := HPg1_8.out.cells
    go_upto_region 13 with (fail)
    clear p2
    obtain ⟨-, -, q2, -⟩ := HPg2_8.out.cells
    go_upto_region 14 with (fail)
    clear q2
    obtain ⟨p0, p1, p2, -⟩ := HPg1_8.out.cells
    obtain ⟨q0, q1, q2, -⟩ := HPg2_8.out.cells
    obtain ⟨ye, hye, He, HGe, hse⟩ := boxA w6 #[.slice L1 l1.length cL1, .slice L2 l2.length cL2] 71
    have HYe := Aside0.mk hye.symm
    have CCe := Aside0.mk (concat2 HGe.out (HIl1_8.out.below He.out) (HIl2_8.out.below He.out) HLEN.out.2.1.1 HLEN.out.2.2.2.1 (by have := HLEN.out.2.1.2; omega) (by have := HLEN.out.2.2.2.2; omega))
    rw [hye] at CCe
    go_upto_region 15 with (go_at_call 119; (with_reducible refine CCe.out.mono ?_); rintro e w8 ⟨C2, Q2, rfl, hi, hb⟩; have HIce := Aside0.mk hi; have HBke : Aside0 (Below w6.heap.size w6 w8) := ⟨(by rw [HYe.out] at hb; exact He.out.trans (hb.mono He.out.size))⟩; have HPge := Aside0.mk (HPc.out.below HBke.out); obtain ⟨z0, z1, z2, u0, u1, u2⟩ := HPge.out.cells; clear hi hb)
    clear p0 p1 p2 q0 q1 q2 z0 z1 z2 u0 u1 u2 CCe
    have HA_9 := Aside0.mk (HA_8.out.below HBke.out)
    have HF_9 := Aside0.mk (HF_8.out.trans (Fr.of HBke.out))
    have HPr_9 := Aside0.mk (HPr_8.out.below HBke.out)
    have HPg1_9 := Aside0.mk (HPg1_8.out.below HBke.out)
    have HPg2_9 := Aside0.mk (HPg2_8.out.below HBke.out)
    have HPg3_9 := Aside0.mk (HPc.out.below HBke.out)
    have HIf1_9 := Aside0.mk (HIf1_8.out.below HBke.out)
    have HIl1_9 := Aside0.mk (HIl1_8.out.below HBke.out)
    have HIf2_9 := Aside0.mk (HIf2_8.out.below HBke.out)
    have HIl2_9 := Aside0.mk (HIl2_8.out.below HBke.out)
    have HIye : Aside0 (IntsAt w8 (fun g => ¬ S3 g) C2 (l1 ++ l2)) := ⟨HIce.out.mono (fun g hg _ hs => by have h1 := (HA_8.out.lt hs).2; have h2 := He.out.size; have h3 : ye.heap.size ≤ g := (by first | exact hg | (rw [← HYe.out]; exact hg)); omega)⟩
    obtain ⟨w8s, hw8s⟩ : ∃ W, W = w8.setCell ⟨g3, 1, none⟩ (.slice C2 (l1.length + l2.length) Q2) := ⟨_, rfl⟩
    rw [← hw8s]
    have hbte : Bt g3 w8 w8s := by rw [hw8s]; exact Bt.set _ _ _ _
    have HA_10 := Aside0.mk (HA_9.out.far HPg3_9.out hbte)
    have HF_10 := Aside0.mk (HF_9.out.far hbte (by omega))
    have HPr_10 : Aside0 (PartB w8s (sz + 1) none 0 0 none 0 0 false) := ⟨(hbte.keep (sz + 1) (by omega)).trans HPr_9.out⟩
    have HPg1_10 : Aside0 (PartB w8s g1 F1 f1.length cF1 L1 l1.length cL1 false) := ⟨(hbte.keep g1 (by omega)).trans HPg1_9.out⟩
    have HPg2_10 : Aside0 (PartB w8s g2 F2 f2.length cF2 L2 l2.length cL2 true) := ⟨(hbte.keep g2 (by omega)).trans HPg2_9.out⟩
    have HPg3_10 : Aside0 (PartB w8s g3 F1 f1.length cF1 C2 (l1.length + l2.length) Q2 false) := ⟨by rw [hw8s]; exact HPg3_9.out.put1 _ _ _⟩
    have HIf1_10 := Aside0.mk (HIf1_9.out.far HPg3_9.out hbte)
    have HIl1_10 := Aside0.mk (HIl1_9.out.far HPg3_9.out hbte)
    have HIf2_10 := Aside0.mk (HIf2_9.out.far HPg3_9.out hbte)
    have HIl2_10 := Aside0.mk (HIl2_9.out.far HPg3_9.out hbte)
    have HIzl_10 := Aside0.mk (HIye.out.far HPg3_9.out hbte)
    clear hw8s hbte HIce HBke HPge HIye HYe hye He HGe hse
    clear HA_8 HF_8 HPr_8 HPg1_8 HPg2_8 HPc HIf1_8 HIl1_8 HIf2_8 HIl2_8
    clear HA_9 HF_9 HPr_9 HPg1_9 HPg2_9 HPg3_9 HIf1_9 HIl1_9 HIf2_9 HIl2_9
    obtain ⟨z0, z1, z2, -⟩ := HPg3_10.out.cells
    obtain ⟨p0, p1, p2, u0, u1, u2⟩ := HPr_10.out.cells
    obtain ⟨wx, hwx⟩ : ∃ x, x = ((w8s.setCell ⟨sz + 1, 0, none⟩ (.slice F1 f1.length cF1)).setCell ⟨sz + 1, 1, none⟩ (.slice C2 (l1.length + l2.length) Q2)).setCell ⟨sz + 1, 2, none⟩ (.bool false) := ⟨_, rfl⟩
    have hbt : Bt (sz + 1) w8s wx := by rw [hwx]; exact Bt.set3 _ _ _ _ _
    have HW := Aside0.mk hwx.symm
    have HA_11 := Aside0.mk (HA_10.out.far HPr_10.out hbt)
    have HF_11 := Aside0.mk ((HFc.out.trans HF_10.out).far hbt (by omega))
    have HPr_11 : Aside0 (PartB wx (sz + 1) F1 f1.length cF1 C2 (l1.length + l2.length) Q2 false) := ⟨by rw [hwx]; exact HPr_10.out.set3⟩
    have HPg1_11 : Aside0 (PartB wx g1 F1 f1.length cF1 L1 l1.length cL1 false) := ⟨(hbt.keep g1 (by omega)).trans HPg1_10.out⟩
    have HPg2_11 : Aside0 (PartB wx g2 F2 f2.length cF2 L2 l2.length cL2 true) := ⟨(hbt.keep g2 (by omega)).trans HPg2_10.out⟩
    have HPg3_11 : Aside0 (PartB wx g3 F1 f1.length cF1 C2 (l1.length + l2.length) Q2 false) := ⟨(hbt.keep g3 (by omega)).trans HPg3_10.out⟩
    have HIf1_11 := Aside0.mk (HIf1_10.out.far HPr_10.out hbt)
    have HIl1_11 := Aside0.mk (HIl1_10.out.far HPr_10.out hbt)
    have HIf2_11 := Aside0.mk (HIf2_10.out.far HPr_10.out hbt)
    have HIl2_11 := Aside0.mk (HIl2_10.out.far HPr_10.out hbt)
    have HIzl_11 := Aside0.mk (HIzl_10.out.far HPr_10.out hbt)
    clear hwx hbt
    go_wp2_with fail
    rw [HW.out]
    clear z0 z1 z2 p0 p1 p2 u0 u1 u2 HW
    obtain ⟨z0, z1, z2, -⟩ := HPr_11.out.cells
    refine bodyPost_ret (by simp [results, Tryd.results97, go_sem, z0, z1, z2]; try rfl) rfl ?_
    exact ⟨S3, HA_11.out, HF_11.out, F1, cF1, C2, Q2, by simp, HIf1_11.out, HIzl_11.out⟩
  · skip
    obtain ⟨p0, p1, p2, -⟩ := HPg1_5.out.cells
    obtain ⟨q0, q1, q2, -⟩ := HPg2_5.out.cells
    obtain ⟨w6, hw6, HBc, HNc, hsc⟩ := boxA w5 #[.slice F1 f1.length cF1, .slice L2 l2.length cL2, .bool false] 98
    have HPc : Aside0 (PartB w6 w5.heap.size F1 f1.length cF1 L2 l2.length cL2 false) := ⟨HNc.out⟩
    have HWc := Aside0.mk hw6.symm
    clear hw6 hsc HNc
    go_upto_region 11 with (fail)
    rw [HWc.out]
    clear HWc p0 p1 p2 q0 q1 q2
    have HA_12 := Aside0.mk (HA_5.out.below HBc.out)
    have HF_12 := Aside0.mk (HF_5.out.trans (Fr.of HBc.out))
    have HPr_12 := Aside0.mk (HPr_5.out.below HBc.out)
    have HPg1_12 := Aside0.mk (HPg1_5.out.below HBc.out)
    have HPg2_12 := Aside0.mk (HPg2_5.out.below HBc.out)
    have HIf1_12 := Aside0.mk (HIf1_5.out.below HBc.out)
    have HIl1_12 := Aside0.mk (HIl1_5.out.below HBc.out)
    have HIf2_12 := Aside0.mk (HIf2_5.out.below HBc.out)
    have HIl2_12 := Aside0.mk (HIl2_5.out.below HBc.out)
    have hge3 : sz + 2 ≤ w5.heap.size := by have := HF_5.out.size; omega
    have h13 : g1 < w5.heap.size := blk_lt HPg1_5.out
    have h23 : g2 < w5.heap.size := blk_lt HPg2_5.out
    obtain ⟨g3, hg3⟩ : ∃ g, w5.heap.size = g := ⟨_, rfl⟩
    rw [hg3] at HPc hge3 h13 h23 ⊢
    clear HBc hg3
    clear HA_5 HF_5 HPr_5 HPg1_5 HPg2_5 HIf1_5 HIl1_5 HIf2_5 HIl2_5
    obtain ⟨-, -, p2, -⟩ := HPg1_12.out.cells
    go_upto_region 12 with (fail)
    clear p2
    obtain ⟨p0, p1, p2, -⟩ := HPg1_12.out.cells
    obtain ⟨q0, q1, q2, -⟩ := HPg2_12.out.cells
    obtain ⟨yd, hyd, Hd, HGd, hsd⟩ := boxA w6 #[.slice F1 f1.length cF1, .slice F2 f2.length cF2] 71
    have HYd := Aside0.mk hyd.symm
    have CCd := Aside0.mk (concat2 HGd.out (HIf1_12.out.below Hd.out) (HIf2_12.out.below Hd.out) HLEN.out.1.1 HLEN.out.2.2.1.1 (by have := HLEN.out.1.2; omega) (by have := HLEN.out.2.2.1.2; omega))
    rw [hyd] at CCd
    go_upto_region 13 with (go_at_call 119; (with_reducible refine CCd.out.mono ?_); rintro e w7 ⟨C1, Q1, rfl, hi, hb⟩; have HIcd := Aside0.mk hi; have HBkd : Aside0 (Below w6.heap.size w6 w7) := ⟨(by rw [HYd.out] at hb; exact Hd.out.trans (hb.mono Hd.out.size))⟩; have HPgd := Aside0.mk (HPc.out.below HBkd.out); obtain ⟨z0, z1, z2, u0, u1, u2⟩ := HPgd.out.cells; clear hi hb)
    clear p0 p1 p2 q0 q1 q2 z0 z1 z2 u0 u1 u2 CCd
    have HA_13 := Aside0.mk (HA_12.out.below HBkd.out)
    have HF_13 := Aside0.mk (HF_12.out.trans (Fr.of HBkd.out))
    have HPr_13 := Aside0.mk (HPr_12.out.below HBkd.out)
    have HPg1_13 := Aside0.mk (HPg1_12.out.below HBkd.out)
    have HPg2_13 := Aside0.mk (HPg2_12.out.below HBkd.out)
    have HPg3_13 := Aside0.mk (HPc.out.below HBkd.out)
    have HIf1_13 := Aside0.mk (HIf1_12.out.below HBkd.out)
    have HIl1_13 := Aside0.mk (HIl1_12.out.below HBkd.out)
    have HIf2_13 := Aside0.mk (HIf2_12.out.below HBkd.out)
    have HIl2_13 := Aside0.mk (HIl2_12.out.below HBkd.out)
    have HIyd : Aside0 (IntsAt w7 (fun g => ¬ S3 g) C1 (f1 ++ f2)) := ⟨HIcd.out.mono (fun g hg _ hs => by have h1 := (HA_12.out.lt hs).2; have h2 := Hd.out.size; have h3 : yd.heap.size ≤ g := (by first | exact hg | (rw [← HYd.out]; exact hg)); omega)⟩
    obtain ⟨w7s, hw7s⟩ : ∃ W, W = w7.setCell ⟨g3, 0, none⟩ (.slice C1 (f1.length + f2.length) Q1) := ⟨_, rfl⟩
    rw [← hw7s]
    have hbtd : Bt g3 w7 w7s := by rw [hw7s]; exact Bt.set _ _ _ _
    have HA_14 := Aside0.mk (HA_13.out.far HPg3_13.out hbtd)
    have HF_14 := Aside0.mk (HF_13.out.far hbtd (by omega))
    have HPr_14 : Aside0 (PartB w7s (sz + 1) none 0 0 none 0 0 false) := ⟨(hbtd.keep (sz + 1) (by omega)).trans HPr_13.out⟩
    have HPg1_14 : Aside0 (PartB w7s g1 F1 f1.length cF1 L1 l1.length cL1 true) := ⟨(hbtd.keep g1 (by omega)).trans HPg1_13.out⟩
    have HPg2_14 : Aside0 (PartB w7s g2 F2 f2.length cF2 L2 l2.length cL2 false) := ⟨(hbtd.keep g2 (by omega)).trans HPg2_13.out⟩
    have HPg3_14 : Aside0 (PartB w7s g3 C1 (f1.length + f2.length) Q1 L2 l2.length cL2 false) := ⟨by rw [hw7s]; exact HPg3_13.out.put0 _ _ _⟩
    have HIf1_14 := Aside0.mk (HIf1_13.out.far HPg3_13.out hbtd)
    have HIl1_14 := Aside0.mk (HIl1_13.out.far HPg3_13.out hbtd)
    have HIf2_14 := Aside0.mk (HIf2_13.out.far HPg3_13.out hbtd)
    have HIl2_14 := Aside0.mk (HIl2_13.out.far HPg3_13.out hbtd)
    have HIzf_14 := Aside0.mk (HIyd.out.far HPg3_13.out hbtd)
    clear hw7s hbtd HIcd HBkd HPgd HIyd HYd hyd Hd HGd hsd
    clear HA_12 HF_12 HPr_12 HPg1_12 HPg2_12 HPc HIf1_12 HIl1_12 HIf2_12 HIl2_12
    clear HA_13 HF_13 HPr_13 HPg1_13 HPg2_13 HPg3_13 HIf1_13 HIl1_13 HIf2_13 HIl2_13
    obtain ⟨-, -, q2, -⟩ := HPg2_14.out.cells
    go_upto_region 15 with (fail)
    clear q2
    obtain ⟨z0, z1, z2, -⟩ := HPg3_14.out.cells
    obtain ⟨p0, p1, p2, u0, u1, u2⟩ := HPr_14.out.cells
    obtain ⟨wx, hwx⟩ : ∃ x, x = ((w7s.setCell ⟨sz + 1, 0, none⟩ (.slice C1 (f1.length + f2.length) Q1)).setCell ⟨sz + 1, 1, none⟩ (.slice L2 l2.length cL2)).setCell ⟨sz + 1, 2, none⟩ (.bool false) := ⟨_, rfl⟩
    have hbt : Bt (sz + 1) w7s wx := by rw [hwx]; exact Bt.set3 _ _ _ _ _
    have HW := Aside0.mk hwx.symm
    have HA_15 := Aside0.mk (HA_14.out.far HPr_14.out hbt)
    have HF_15 := Aside0.mk ((HFc.out.trans HF_14.out).far hbt (by omega))
    have HPr_15 : Aside0 (PartB wx (sz + 1) C1 (f1.length + f2.length) Q1 L2 l2.length cL2 false) := ⟨by rw [hwx]; exact HPr_14.out.set3⟩
    have HPg1_15 : Aside0 (PartB wx g1 F1 f1.length cF1 L1 l1.length cL1 true) := ⟨(hbt.keep g1 (by omega)).trans HPg1_14.out⟩
    have HPg2_15 : Aside0 (PartB wx g2 F2 f2.length cF2 L2 l2.length cL2 false) := ⟨(hbt.keep g2 (by omega)).trans HPg2_14.out⟩
    have HPg3_15 : Aside0 (PartB wx g3 C1 (f1.length + f2.length) Q1 L2 l2.length cL2 false) := ⟨(hbt.keep g3 (by omega)).trans HPg3_14.out⟩
    have HIf1_15 := Aside0.mk (HIf1_14.out.far HPr_14.out hbt)
    have HIl1_15 := Aside0.mk (HIl1_14.out.far HPr_14.out hbt)
    have HIf2_15 := Aside0.mk (HIf2_14.out.far HPr_14.out hbt)
    have HIl2_15 := Aside0.mk (HIl2_14.out.far HPr_14.out hbt)
    have HIzf_15 := Aside0.mk (HIzf_14.out.far HPr_14.out hbt)
    clear hwx hbt
    go_wp2_with fail
    rw [HW.out]
    clear z0 z1 z2 p0 p1 p2 u0 u1 u2 HW
    obtain ⟨z0, z1, z2, -⟩ := HPr_15.out.cells
    refine bodyPost_ret (by simp [results, Tryd.results97, go_sem, z0, z1, z2]; try rfl) rfl ?_
    exact ⟨S3, HA_15.out, HF_15.out, C1, Q1, L2, cL2, by simp, HIzf_15.out, HIl2_15.out⟩
  · skip
    obtain ⟨p0, p1, p2, -⟩ := HPg1_5.out.cells
    obtain ⟨q0, q1, q2, -⟩ := HPg2_5.out.cells
    obtain ⟨w6, hw6, HBc, HNc, hsc⟩ := boxA w5 #[.slice F1 f1.length cF1, .slice L2 l2.length cL2, .bool true] 98
    have HPc : Aside0 (PartB w6 w5.heap.size F1 f1.length cF1 L2 l2.length cL2 true) := ⟨HNc.out⟩
    have HWc := Aside0.mk hw6.symm
    clear hw6 hsc HNc
    go_upto_region 11 with (fail)
    rw [HWc.out]
    clear HWc p0 p1 p2 q0 q1 q2
    have HA_16 := Aside0.mk (HA_5.out.below HBc.out)
    have HF_16 := Aside0.mk (HF_5.out.trans (Fr.of HBc.out))
    have HPr_16 := Aside0.mk (HPr_5.out.below HBc.out)
    have HPg1_16 := Aside0.mk (HPg1_5.out.below HBc.out)
    have HPg2_16 := Aside0.mk (HPg2_5.out.below HBc.out)
    have HIf1_16 := Aside0.mk (HIf1_5.out.below HBc.out)
    have HIl1_16 := Aside0.mk (HIl1_5.out.below HBc.out)
    have HIf2_16 := Aside0.mk (HIf2_5.out.below HBc.out)
    have HIl2_16 := Aside0.mk (HIl2_5.out.below HBc.out)
    have hge3 : sz + 2 ≤ w5.heap.size := by have := HF_5.out.size; omega
    have h13 : g1 < w5.heap.size := blk_lt HPg1_5.out
    have h23 : g2 < w5.heap.size := blk_lt HPg2_5.out
    obtain ⟨g3, hg3⟩ : ∃ g, w5.heap.size = g := ⟨_, rfl⟩
    rw [hg3] at HPc hge3 h13 h23 ⊢
    clear HBc hg3
    clear HA_5 HF_5 HPr_5 HPg1_5 HPg2_5 HIf1_5 HIl1_5 HIf2_5 HIl2_5
    obtain ⟨-, -, p2, -⟩ := HPg1_16.out.cells
    go_upto_region 12 with (fail)
    clear p2
    obtain ⟨p0, p1, p2, -⟩ := HPg1_16.out.cells
    obtain ⟨q0, q1, q2, -⟩ := HPg2_16.out.cells
    obtain ⟨yd, hyd, Hd, HGd, hsd⟩ := boxA w6 #[.slice F1 f1.length cF1, .slice F2 f2.length cF2] 71
    have HYd := Aside0.mk hyd.symm
    have CCd := Aside0.mk (concat2 HGd.out (HIf1_16.out.below Hd.out) (HIf2_16.out.below Hd.out) HLEN.out.1.1 HLEN.out.2.2.1.1 (by have := HLEN.out.1.2; omega) (by have := HLEN.out.2.2.1.2; omega))
    rw [hyd] at CCd
    go_upto_region 13 with (go_at_call 119; (with_reducible refine CCd.out.mono ?_); rintro e w7 ⟨C1, Q1, rfl, hi, hb⟩; have HIcd := Aside0.mk hi; have HBkd : Aside0 (Below w6.heap.size w6 w7) := ⟨(by rw [HYd.out] at hb; exact Hd.out.trans (hb.mono Hd.out.size))⟩; have HPgd := Aside0.mk (HPc.out.below HBkd.out); obtain ⟨z0, z1, z2, u0, u1, u2⟩ := HPgd.out.cells; clear hi hb)
    clear p0 p1 p2 q0 q1 q2 z0 z1 z2 u0 u1 u2 CCd
    have HA_17 := Aside0.mk (HA_16.out.below HBkd.out)
    have HF_17 := Aside0.mk (HF_16.out.trans (Fr.of HBkd.out))
    have HPr_17 := Aside0.mk (HPr_16.out.below HBkd.out)
    have HPg1_17 := Aside0.mk (HPg1_16.out.below HBkd.out)
    have HPg2_17 := Aside0.mk (HPg2_16.out.below HBkd.out)
    have HPg3_17 := Aside0.mk (HPc.out.below HBkd.out)
    have HIf1_17 := Aside0.mk (HIf1_16.out.below HBkd.out)
    have HIl1_17 := Aside0.mk (HIl1_16.out.below HBkd.out)
    have HIf2_17 := Aside0.mk (HIf2_16.out.below HBkd.out)
    have HIl2_17 := Aside0.mk (HIl2_16.out.below HBkd.out)
    have HIyd : Aside0 (IntsAt w7 (fun g => ¬ S3 g) C1 (f1 ++ f2)) := ⟨HIcd.out.mono (fun g hg _ hs => by have h1 := (HA_16.out.lt hs).2; have h2 := Hd.out.size; have h3 : yd.heap.size ≤ g := (by first | exact hg | (rw [← HYd.out]; exact hg)); omega)⟩
    obtain ⟨w7s, hw7s⟩ : ∃ W, W = w7.setCell ⟨g3, 0, none⟩ (.slice C1 (f1.length + f2.length) Q1) := ⟨_, rfl⟩
    rw [← hw7s]
    have hbtd : Bt g3 w7 w7s := by rw [hw7s]; exact Bt.set _ _ _ _
    have HA_18 := Aside0.mk (HA_17.out.far HPg3_17.out hbtd)
    have HF_18 := Aside0.mk (HF_17.out.far hbtd (by omega))
    have HPr_18 : Aside0 (PartB w7s (sz + 1) none 0 0 none 0 0 false) := ⟨(hbtd.keep (sz + 1) (by omega)).trans HPr_17.out⟩
    have HPg1_18 : Aside0 (PartB w7s g1 F1 f1.length cF1 L1 l1.length cL1 true) := ⟨(hbtd.keep g1 (by omega)).trans HPg1_17.out⟩
    have HPg2_18 : Aside0 (PartB w7s g2 F2 f2.length cF2 L2 l2.length cL2 true) := ⟨(hbtd.keep g2 (by omega)).trans HPg2_17.out⟩
    have HPg3_18 : Aside0 (PartB w7s g3 C1 (f1.length + f2.length) Q1 L2 l2.length cL2 true) := ⟨by rw [hw7s]; exact HPg3_17.out.put0 _ _ _⟩
    have HIf1_18 := Aside0.mk (HIf1_17.out.far HPg3_17.out hbtd)
    have HIl1_18 := Aside0.mk (HIl1_17.out.far HPg3_17.out hbtd)
    have HIf2_18 := Aside0.mk (HIf2_17.out.far HPg3_17.out hbtd)
    have HIl2_18 := Aside0.mk (HIl2_17.out.far HPg3_17.out hbtd)
    have HIzf_18 := Aside0.mk (HIyd.out.far HPg3_17.out hbtd)
    clear hw7s hbtd HIcd HBkd HPgd HIyd HYd hyd Hd HGd hsd
    clear HA_16 HF_16 HPr_16 HPg1_16 HPg2_16 HPc HIf1_16 HIl1_16 HIf2_16 HIl2_16
    clear HA_17 HF_17 HPr_17 HPg1_17 HPg2_17 HPg3_17 HIf1_17 HIl1_17 HIf2_17 HIl2_17
    obtain ⟨-, -, q2, -⟩ := HPg2_18.out.cells
    go_upto_region 14 with (fail)
    clear q2
    obtain ⟨p0, p1, p2, -⟩ := HPg1_18.out.cells
    obtain ⟨q0, q1, q2, -⟩ := HPg2_18.out.cells
    obtain ⟨ye, hye, He, HGe, hse⟩ := boxA w7s #[.slice L1 l1.length cL1, .slice L2 l2.length cL2] 71
    have HYe := Aside0.mk hye.symm
    have CCe := Aside0.mk (concat2 HGe.out (HIl1_18.out.below He.out) (HIl2_18.out.below He.out) HLEN.out.2.1.1 HLEN.out.2.2.2.1 (by have := HLEN.out.2.1.2; omega) (by have := HLEN.out.2.2.2.2; omega))
    rw [hye] at CCe
    go_upto_region 15 with (go_at_call 119; (with_reducible refine CCe.out.mono ?_); rintro e w8 ⟨C2, Q2, rfl, hi, hb⟩; have HIce := Aside0.mk hi; have HBke : Aside0 (Below w7s.heap.size w7s w8) := ⟨(by rw [HYe.out] at hb; exact He.out.trans (hb.mono He.out.size))⟩; have HPge := Aside0.mk (HPg3_18.out.below HBke.out); obtain ⟨z0, z1, z2, u0, u1, u2⟩ := HPge.out.cells; clear hi hb)
    clear p0 p1 p2 q0 q1 q2 z0 z1 z2 u0 u1 u2 CCe
    have HA_19 := Aside0.mk (HA_18.out.below HBke.out)
    have HF_19 := Aside0.mk (HF_18.out.trans (Fr.of HBke.out))
    have HPr_19 := Aside0.mk (HPr_18.out.below HBke.out)
    have HPg1_19 := Aside0.mk (HPg1_18.out.below HBke.out)
    have HPg2_19 := Aside0.mk (HPg2_18.out.below HBke.out)
    have HPg3_19 := Aside0.mk (HPg3_18.out.below HBke.out)
    have HIf1_19 := Aside0.mk (HIf1_18.out.below HBke.out)
    have HIl1_19 := Aside0.mk (HIl1_18.out.below HBke.out)
    have HIf2_19 := Aside0.mk (HIf2_18.out.below HBke.out)
    have HIl2_19 := Aside0.mk (HIl2_18.out.below HBke.out)
    have HIzf_19 := Aside0.mk (HIzf_18.out.below HBke.out)
    have HIye : Aside0 (IntsAt w8 (fun g => ¬ S3 g) C2 (l1 ++ l2)) := ⟨HIce.out.mono (fun g hg _ hs => by have h1 := (HA_18.out.lt hs).2; have h2 := He.out.size; have h3 : ye.heap.size ≤ g := (by first | exact hg | (rw [← HYe.out]; exact hg)); omega)⟩
    obtain ⟨w8s, hw8s⟩ : ∃ W, W = w8.setCell ⟨g3, 1, none⟩ (.slice C2 (l1.length + l2.length) Q2) := ⟨_, rfl⟩
    rw [← hw8s]
    have hbte : Bt g3 w8 w8s := by rw [hw8s]; exact Bt.set _ _ _ _
    have HA_20 := Aside0.mk (HA_19.out.far HPg3_19.out hbte)
    have HF_20 := Aside0.mk (HF_19.out.far hbte (by omega))
    have HPr_20 : Aside0 (PartB w8s (sz + 1) none 0 0 none 0 0 false) := ⟨(hbte.keep (sz + 1) (by omega)).trans HPr_19.out⟩
    have HPg1_20 : Aside0 (PartB w8s g1 F1 f1.length cF1 L1 l1.length cL1 true) := ⟨(hbte.keep g1 (by omega)).trans HPg1_19.out⟩
    have HPg2_20 : Aside0 (PartB w8s g2 F2 f2.length cF2 L2 l2.length cL2 true) := ⟨(hbte.keep g2 (by omega)).trans HPg2_19.out⟩
    have HPg3_20 : Aside0 (PartB w8s g3 C1 (f1.length + f2.length) Q1 C2 (l1.length + l2.length) Q2 true) := ⟨by rw [hw8s]; exact HPg3_19.out.put1 _ _ _⟩
    have HIf1_20 := Aside0.mk (HIf1_19.out.far HPg3_19.out hbte)
    have HIl1_20 := Aside0.mk (HIl1_19.out.far HPg3_19.out hbte)
    have HIf2_20 := Aside0.mk (HIf2_19.out.far HPg3_19.out hbte)
    have HIl2_20 := Aside0.mk (HIl2_19.out.far HPg3_19.out hbte)
    have HIzf_20 := Aside0.mk (HIzf_19.out.far HPg3_19.out hbte)
    have HIzl_20 := Aside0.mk (HIye.out.far HPg3_19.out hbte)
    clear hw8s hbte HIce HBke HPge HIye HYe hye He HGe hse
    clear HA_18 HF_18 HPr_18 HPg1_18 HPg2_18 HPg3_18 HIf1_18 HIl1_18 HIf2_18 HIl2_18 HIzf_18
    clear HA_19 HF_19 HPr_19 HPg1_19 HPg2_19 HPg3_19 HIf1_19 HIl1_19 HIf2_19 HIl2_19 HIzf_19
    obtain ⟨z0, z1, z2, -⟩ := HPg3_20.out.cells
    obtain ⟨p0, p1, p2, u0, u1, u2⟩ := HPr_20.out.cells
    obtain ⟨wx, hwx⟩ : ∃ x, x = ((w8s.setCell ⟨sz + 1, 0, none⟩ (.slice C1 (f1.length + f2.length) Q1)).setCell ⟨sz + 1, 1, none⟩ (.slice C2 (l1.length + l2.length) Q2)).setCell ⟨sz + 1, 2, none⟩ (.bool true) := ⟨_, rfl⟩
    have hbt : Bt (sz + 1) w8s wx := by rw [hwx]; exact Bt.set3 _ _ _ _ _
    have HW := Aside0.mk hwx.symm
    have HA_21 := Aside0.mk (HA_20.out.far HPr_20.out hbt)
    have HF_21 := Aside0.mk ((HFc.out.trans HF_20.out).far hbt (by omega))
    have HPr_21 : Aside0 (PartB wx (sz + 1) C1 (f1.length + f2.length) Q1 C2 (l1.length + l2.length) Q2 true) := ⟨by rw [hwx]; exact HPr_20.out.set3⟩
    have HPg1_21 : Aside0 (PartB wx g1 F1 f1.length cF1 L1 l1.length cL1 true) := ⟨(hbt.keep g1 (by omega)).trans HPg1_20.out⟩
    have HPg2_21 : Aside0 (PartB wx g2 F2 f2.length cF2 L2 l2.length cL2 true) := ⟨(hbt.keep g2 (by omega)).trans HPg2_20.out⟩
    have HPg3_21 : Aside0 (PartB wx g3 C1 (f1.length + f2.length) Q1 C2 (l1.length + l2.length) Q2 true) := ⟨(hbt.keep g3 (by omega)).trans HPg3_20.out⟩
    have HIf1_21 := Aside0.mk (HIf1_20.out.far HPr_20.out hbt)
    have HIl1_21 := Aside0.mk (HIl1_20.out.far HPr_20.out hbt)
    have HIf2_21 := Aside0.mk (HIf2_20.out.far HPr_20.out hbt)
    have HIl2_21 := Aside0.mk (HIl2_20.out.far HPr_20.out hbt)
    have HIzf_21 := Aside0.mk (HIzf_20.out.far HPr_20.out hbt)
    have HIzl_21 := Aside0.mk (HIzl_20.out.far HPr_20.out hbt)
    clear hwx hbt
    go_wp2_with fail
    rw [HW.out]
    clear z0 z1 z2 p0 p1 p2 u0 u1 u2 HW
    obtain ⟨z0, z1, z2, -⟩ := HPr_21.out.cells
    refine bodyPost_ret (by simp [results, Tryd.results97, go_sem, z0, z1, z2]; try rfl) rfl ?_
    exact ⟨S3, HA_21.out, HF_21.out, C1, Q1, C2, Q2, by simp, HIzf_21.out, HIzl_21.out⟩
end Go.Proofs.YtbaegfjoionojaaDoor.Qa
