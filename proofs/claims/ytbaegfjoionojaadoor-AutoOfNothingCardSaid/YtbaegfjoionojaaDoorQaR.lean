/- The walk of build: a path's part. -/
import Derived.Test.YtbaegfjoionojaaDoorQaO
import Derived.Test.YtbaegfjoionojaaDoorQaP
import Derived.Test.YtbaegfjoionojaaDoorQaQ
set_option linter.unusedSimpArgs false
set_option linter.unusedVariables false
namespace Go.Proofs.YtbaegfjoionojaaDoor.Qa
open Go Go.RowKit Go.Proofs.YtbaegfjoionojaaDoor.Qy Go.Proofs.YtbaegfjoionojaaDoor.Tm Go.Proofs.YtbaegfjoionojaaDoorW.PrintWords

/-- slices.Clone of texts. -/
theorem clone_ts {w : World} {ok : Nat → Prop} {A : Option Addr} {ts : List ByteArray} {c : Nat} (h : TsAt w ok A ts) (h0 : 0 < ts.length) (h4 : ts.length ≤ 1000) : Calls Tryd.prog 72 #[.slice A ts.length c] w fun e w' => ∃ (C : Option Addr) (q : Nat), e = .returned (.slice C ts.length q) ∧ ts.length ≤ q ∧ TsAt w' (fun g => w.heap.size ≤ g) C ts ∧ Below w.heap.size w w' := by
  obtain ⟨b, o, rfl, -, hc⟩ := h.2 h0
  refine (Tryd.slices_Clone_string b o ts.length c ts w (Nat.le_refl _) (by omega) (fun j hj => by
    rw [hc j _ (List.getElem?_eq_getElem hj), List.getD_eq_getElem?_getD, List.getElem?_eq_getElem hj]; rfl)).mono ?_
  rintro e w' ⟨v, rfl, hv, -, hb⟩
  rw [List.take_length] at hv
  rcases hv.2 with ⟨_, hn⟩ | ⟨g, cap, cur, rfl, hg, hh, h1, h2, h3, h5⟩
  · omega
  · refine ⟨_, cap, rfl, h1, ⟨by omega, fun _ => ⟨g, 0, rfl, hg, fun j t ht => ?_⟩⟩, hb⟩
    have hj := (List.getElem?_eq_some_iff.1 ht).1
    rw [Nat.zero_add, blk_cell hh j, ← Array.getElem?_toList]
    have h6 : (ts.map Value.string)[j]? = some (.string t) := by rw [List.getElem?_map, ht]; rfl
    rw [← h5, List.getElem?_take_of_lt (by omega)] at h6
    exact h6
/-- A path's block is none of the automaton's. -/
theorem Aut.not_path {w : World} {N b : Nat} {al : List Alng} {bh : List (List Nat)} {S : Nat → Prop} (hv : Aut w N b al bh S) {B : Nat} {cs : Array Value} (h : w.heap[B]? = some (.cells cs 25 (0, 0))) : ¬ S B := by
  obtain ⟨vA, vB, inA, bs, c2, c3, c4, hV, rfl⟩ := hv
  rintro (e | e | e | ⟨i, v, hi, e⟩)
  · exact blk_ne hV.blk h (by decide) e.symm
  · exact own_ne hV.oA h (by decide) e.symm
  · exact own_ne hV.oB h (by decide) e.symm
  · exact own_ne (hV.rB i v hi) h (by decide) e.symm
/-- The cells of a path of one kid. -/
theorem one_cells {w : World} {ok : Nat → Prop} {q : Pth} {B : Option Addr} (h : KidsAt w ok B 0 [q]) : ∃ (kb ko : Nat) (k0 : Int) (t0 : ByteArray) (A0 : Option Addr) (n0 c0 : Nat) (B0 : Option Addr) (m0 d0 : Nat),
    B = some ⟨kb, ko, none⟩ ∧ ok kb ∧ PathAt w ok q [.int .i64 k0, .string t0, .slice A0 n0 c0, .slice B0 m0 d0] ∧
    (w.cell? ⟨kb, ko, none⟩ = some (.int .i64 k0) ∧ w.cell? ⟨kb, ko + 1, none⟩ = some (.string t0) ∧ w.cell? ⟨kb, ko + 2, none⟩ = some (.slice A0 n0 c0) ∧ w.cell? ⟨kb, ko + 3, none⟩ = some (.slice B0 m0 d0)) := by
  obtain ⟨kb0, ko0, cs0, hB0, hok, hc0, hq0⟩ := KidsAt.get _ h 0 q rfl
  obtain ⟨k0', t0', ts0', ks0'⟩ := q
  obtain ⟨A0', cc0', B0', d0', rfl, -⟩ := p_cells hq0
  have a00 := hc0 0 _ rfl
  have a01 := hc0 1 _ rfl
  have a02 := hc0 2 _ rfl
  have a03 := hc0 3 _ rfl
  simp at a00 a01 a02 a03
  exact ⟨_, _, _, _, _, _, _, _, _, _, hB0, hok, hq0, a00, a01, a02, a03⟩
set_option maxRecDepth 100000 in
set_option maxHeartbeats 16000000 in
theorem build_iri (t0 : ByteArray) : BuildC (.iri t0) := by
  intro back w N b al bh S h hN k t A n c B m d hp hb
  obtain ⟨A9, c9, B9, d9, e0, -, -, -, hts, hks⟩ := p_cells (k := 1) hp
  simp only [List.cons.injEq, Value.int.injEq, Value.string.injEq, Value.slice.injEq, true_and, and_true, List.length_nil, List.length_cons, Nat.zero_add, Nat.reduceAdd] at e0
  obtain ⟨rfl, rfl, ⟨rfl, rfl, rfl⟩, rfl, rfl, rfl⟩ := e0
  obtain ⟨wb, hwb, HB, HN, hsb⟩ := boxA w #[.int .i64 1, .string t, .slice A 0 c, .slice B 0 d] 25
  obtain ⟨wc, hwc, HB2, HN2, hsc⟩ := boxA wb #[.slice none 0 0, .slice none 0 0, .bool false] 98
  have HW1 := Aside0.mk hwb.symm
  have HW2 := Aside0.mk hwc.symm
  have HBc := Aside0.mk (HB.out.trans (HB2.out.mono HB.out.size))
  have HAc := Aside0.mk (h.below HBc.out)
  have HFc : Aside0 (Fr S w S wc) := ⟨Fr.of HBc.out⟩
  have HN1 := Aside0.mk (blk_below HN.out HB2.out)
  rw [hsb] at HN2
  have hsS : ∀ g, S g → g < w.heap.size := fun g hg => (h.lt hg).2
  have hwn : w.heap.size ≤ wc.heap.size := HBc.out.size
  have hks2 := HFc.out.kids hks
  obtain ⟨sz, hsz⟩ : ∃ n, w.heap.size = n := ⟨_, rfl⟩
  rw [hsz] at HN1 HN2 hsb hN hsS hwn
  have HNS : Aside0 (∀ g, sz ≤ g → ¬ S g) := ⟨fun g hg hs => by have := hsS g hs; omega⟩
  have hszc : wc.heap.size = sz + 2 := by omega
  have HP6 : Aside0 (PartB wc (sz + 1) none 0 0 none 0 0 false) := ⟨HN2.out⟩
  have hNc : N ≤ wc.heap.size := by omega
  obtain ⟨wd, hwd, HD, HG, hsd⟩ := boxA wc #[.string t] 9
  have HAd := Aside0.mk (HAc.out.below HD.out)
  have HFd : Aside0 (Fr S wc S wd) := ⟨Fr.of HD.out⟩
  have HPd := Aside0.mk (HP6.out.below HD.out)
  have CL : Aside0 (Calls Tryd.prog 96 #[.pointer (some ⟨b, 0, none⟩), .agg #[.slice (some ⟨wc.heap.size, 0, none⟩) 1 1, .bool false, .bool back]] wd (PartP N b (al ++ [⟨[t], false, back⟩]) (bh ++ [[]]) [al.length + 1] [al.length + 1] false S wd)) := ⟨
    leaf_any wd N b al bh S HAd.out (by omega) ⟨[t], false, back⟩ (some ⟨wc.heap.size, 0, none⟩) 1 (by simp) ⟨by simp, fun _ => ⟨_, 0, rfl, fun hs => HNS.out _ (by omega) hs, fun j t ht => by
      cases j with
      | zero => simp at ht; subst ht; exact (blk_cell HG.out 0).trans rfl
      | succ j => simp at ht⟩⟩ (by have := hb.2.1; omega) (by have h1 := hb.2.1; have h2 := hb.2.2.1; omega)⟩
  have HE : Aside0 (wc.alloc (.cells #[.string t] 9) = wd) := ⟨hwd.symm⟩
  rw [← HE.out, hszc] at CL
  clear hp hks hks2 hwb hwc HB HN HB2 HN2 hsb hsc h hsS HBc hwd hsd HG
  go_enter Tryd.func66, Tryd.ntmps66
  go_upto_region 1 with (fail)
  rw [HW1.out, HW2.out]
  clear HW1 HW2
  have q0 := (blk_cell HN1.out 0).trans rfl
  have q1 := (blk_cell HN1.out 1).trans rfl
  have q2 := (blk_cell HN1.out 2).trans rfl
  have q3 := (blk_cell HN1.out 3).trans rfl
  go_wp2_with (go_at_call 96; (with_reducible refine CL.out.mono ?_); rw [HE.out]; rintro e w1 ⟨S1, hA, hF, F1, cF1, L1, cL1, rfl, hf, hl⟩; have HPr : Aside0 (PartB w1 (sz + 1) none 0 0 none 0 0 false) := ⟨hF.blk HPd.out (HAd.out.not_part HPd.out)⟩; have HAq := Aside0.mk hA; have HFq := Aside0.mk hF; have HIf := Aside0.mk hf; have HIl := Aside0.mk hl; obtain ⟨p0, p1, p2, u0, u1, u2⟩ := HPr.out.cells; clear hA hF hf hl)
  obtain ⟨wx, hwx⟩ : ∃ x, x = ((w1.setCell ⟨sz + 1, 0, none⟩ (.slice F1 [al.length + 1].length cF1)).setCell ⟨sz + 1, 1, none⟩ (.slice L1 [al.length + 1].length cL1)).setCell ⟨sz + 1, 2, none⟩ (.bool false) := ⟨_, rfl⟩
  have HW := Aside0.mk hwx.symm
  have hbt : Bt (sz + 1) w1 wx := by rw [hwx]; exact Bt.set3 _ _ _ _ _
  have HPx : Aside0 (PartB wx (sz + 1) F1 [al.length + 1].length cF1 L1 [al.length + 1].length cL1 false) := ⟨by rw [hwx]; exact HPr.out.set3⟩
  have HAx := Aside0.mk (HAq.out.far HPr.out hbt)
  have HFx := Aside0.mk ((HFc.out.trans (HFd.out.trans HFq.out)).far hbt (by omega))
  have HI1 := Aside0.mk (HIf.out.far HPr.out hbt)
  have HI2 := Aside0.mk (HIl.out.far HPr.out hbt)
  clear hwx hbt
  first | rw [HW.out] | (simp only [List.length_singleton] at HW HPx ⊢; rw [HW.out])
  obtain ⟨z0, z1, z2, -⟩ := HPx.out.cells
  clear HW
  refine bodyPost_ret (by simp [results, Tryd.results66, go_sem, z0, z1, z2]; try rfl) rfl ?_
  exact ⟨_, HAx.out, HFx.out, F1, cF1, L1, cL1, by first | rfl | simp, HI1.out, HI2.out⟩
set_option maxRecDepth 100000 in
set_option maxHeartbeats 16000000 in
theorem build_neg (ts : List ByteArray) (h0 : 0 < ts.length) (h4 : ts.length ≤ 1000) : BuildC (.neg ts) := by
  intro back w N b al bh S h hN k t A n c B m d hp hb
  obtain ⟨A9, c9, B9, d9, e0, -, -, -, hts, hks⟩ := p_cells (k := 8) hp
  simp only [List.cons.injEq, Value.int.injEq, Value.string.injEq, Value.slice.injEq, true_and, and_true, List.length_nil, List.length_cons, Nat.zero_add, Nat.reduceAdd] at e0
  obtain ⟨rfl, rfl, ⟨rfl, rfl, rfl⟩, rfl, rfl, rfl⟩ := e0
  obtain ⟨wb, hwb, HB, HN, hsb⟩ := boxA w #[.int .i64 8, .string ⟨#[]⟩, .slice A ts.length c, .slice B 0 d] 25
  obtain ⟨wc, hwc, HB2, HN2, hsc⟩ := boxA wb #[.slice none 0 0, .slice none 0 0, .bool false] 98
  have HW1 := Aside0.mk hwb.symm
  have HW2 := Aside0.mk hwc.symm
  have HBc := Aside0.mk (HB.out.trans (HB2.out.mono HB.out.size))
  have HAc := Aside0.mk (h.below HBc.out)
  have HFc : Aside0 (Fr S w S wc) := ⟨Fr.of HBc.out⟩
  have HN1 := Aside0.mk (blk_below HN.out HB2.out)
  rw [hsb] at HN2
  have hsS : ∀ g, S g → g < w.heap.size := fun g hg => (h.lt hg).2
  have hwn : w.heap.size ≤ wc.heap.size := HBc.out.size
  have hks2 := HFc.out.kids hks
  obtain ⟨sz, hsz⟩ : ∃ n, w.heap.size = n := ⟨_, rfl⟩
  rw [hsz] at HN1 HN2 hsb hN hsS hwn
  have HNS : Aside0 (∀ g, sz ≤ g → ¬ S g) := ⟨fun g hg hs => by have := hsS g hs; omega⟩
  have hszc : wc.heap.size = sz + 2 := by omega
  have HP6 : Aside0 (PartB wc (sz + 1) none 0 0 none 0 0 false) := ⟨HN2.out⟩
  have hNc : N ≤ wc.heap.size := by omega
  have htc : TsAt wc (fun g => ¬ S g) A ts := hts.move (fun g hg hl => HFc.out.keep g hl hg)
  have CC := Aside0.mk (clone_ts (c := c) htc h0 h4)
  have CL : Aside0 (∀ W C q, Below wc.heap.size wc W → ts.length ≤ q → TsAt W (fun g => wc.heap.size ≤ g) C ts → Calls Tryd.prog 96 #[.pointer (some ⟨b, 0, none⟩), .agg #[.slice C ts.length q, .bool true, .bool back]] W (PartP N b (al ++ [⟨ts, true, back⟩]) (bh ++ [[]]) [al.length + 1] [al.length + 1] false S W)) := ⟨fun W C q hB hq hT =>
    leaf_any W N b al bh S (HAc.out.below hB) (by have := hB.size; omega) ⟨ts, true, back⟩ C q hq (hT.mono (fun g hg _ hs => HNS.out g (by omega) hs)) (by have := hb.2.1; omega) (by have h1 := hb.2.1; have h2 := hb.2.2.1; omega)⟩
  clear hp hks hks2 hwb hwc HB HN HB2 HN2 hsb hsc h hsS HBc htc hts
  go_enter Tryd.func66, Tryd.ntmps66
  go_upto_region 1 with (fail)
  rw [HW1.out, HW2.out]
  clear HW1 HW2
  have q0 := (blk_cell HN1.out 0).trans rfl
  have q1 := (blk_cell HN1.out 1).trans rfl
  have q2 := (blk_cell HN1.out 2).trans rfl
  have q3 := (blk_cell HN1.out 3).trans rfl
  go_wp2_with (first
    | (go_at_call 72; (with_reducible refine CC.out.mono ?_); rintro e wd ⟨C, q, rfl, hq, hT, hB⟩; have HBd := Aside0.mk hB; have HTd := Aside0.mk hT; have HQd := Aside0.mk hq; have HAd := Aside0.mk (HAc.out.below hB); have HPd := Aside0.mk (HP6.out.below hB); clear hq hT hB q0 q1 q2 q3)
    | (go_at_call 96; (with_reducible refine (CL.out _ _ _ HBd.out HQd.out HTd.out).mono ?_); rintro e w1 ⟨S1, hA, hF, F1, cF1, L1, cL1, rfl, hf, hl⟩; have HPr : Aside0 (PartB w1 (sz + 1) none 0 0 none 0 0 false) := ⟨hF.blk HPd.out (HAd.out.not_part HPd.out)⟩; have HAq := Aside0.mk hA; have HFq := Aside0.mk hF; have HIf := Aside0.mk hf; have HIl := Aside0.mk hl; obtain ⟨p0, p1, p2, u0, u1, u2⟩ := HPr.out.cells; clear hA hF hf hl))
  obtain ⟨wx, hwx⟩ : ∃ x, x = ((w1.setCell ⟨sz + 1, 0, none⟩ (.slice F1 [al.length + 1].length cF1)).setCell ⟨sz + 1, 1, none⟩ (.slice L1 [al.length + 1].length cL1)).setCell ⟨sz + 1, 2, none⟩ (.bool false) := ⟨_, rfl⟩
  have HW := Aside0.mk hwx.symm
  have hbt : Bt (sz + 1) w1 wx := by rw [hwx]; exact Bt.set3 _ _ _ _ _
  have HPx : Aside0 (PartB wx (sz + 1) F1 [al.length + 1].length cF1 L1 [al.length + 1].length cL1 false) := ⟨by rw [hwx]; exact HPr.out.set3⟩
  have HAx := Aside0.mk (HAq.out.far HPr.out hbt)
  have HFx := Aside0.mk ((HFc.out.trans ((Fr.of HBd.out).trans HFq.out)).far hbt (by omega))
  have HI1 := Aside0.mk (HIf.out.far HPr.out hbt)
  have HI2 := Aside0.mk (HIl.out.far HPr.out hbt)
  clear hwx hbt
  first | rw [HW.out] | (simp only [List.length_singleton] at HW HPx ⊢; rw [HW.out])
  obtain ⟨z0, z1, z2, -⟩ := HPx.out.cells
  clear HW
  refine bodyPost_ret (by simp [results, Tryd.results66, go_sem, z0, z1, z2]; try rfl) rfl ?_
  exact ⟨_, HAx.out, HFx.out, F1, cF1, L1, cL1, by first | rfl | simp, HI1.out, HI2.out⟩
set_option maxRecDepth 100000 in
set_option maxHeartbeats 16000000 in
theorem build_back (r : Rx) (hr : BuildC r) : BuildC (.back r) := by
  intro back w N b al bh S h hN k t A n c B m d hp hb
  obtain ⟨A9, c9, B9, d9, e0, -, -, -, hts, hks⟩ := p_cells (k := 2) hp
  simp only [List.cons.injEq, Value.int.injEq, Value.string.injEq, Value.slice.injEq, true_and, and_true, List.length_nil, List.length_cons, Nat.zero_add, Nat.reduceAdd] at e0
  obtain ⟨rfl, rfl, ⟨rfl, rfl, rfl⟩, rfl, rfl, rfl⟩ := e0
  obtain ⟨wb, hwb, HB, HN, hsb⟩ := boxA w #[.int .i64 2, .string ⟨#[]⟩, .slice A 0 c, .slice B 1 d] 25
  obtain ⟨wc, hwc, HB2, HN2, hsc⟩ := boxA wb #[.slice none 0 0, .slice none 0 0, .bool false] 98
  have HW1 := Aside0.mk hwb.symm
  have HW2 := Aside0.mk hwc.symm
  have HBc := Aside0.mk (HB.out.trans (HB2.out.mono HB.out.size))
  have HAc := Aside0.mk (h.below HBc.out)
  have HFc : Aside0 (Fr S w S wc) := ⟨Fr.of HBc.out⟩
  have HN1 := Aside0.mk (blk_below HN.out HB2.out)
  rw [hsb] at HN2
  have hsS : ∀ g, S g → g < w.heap.size := fun g hg => (h.lt hg).2
  have hwn : w.heap.size ≤ wc.heap.size := HBc.out.size
  have hks2 := HFc.out.kids hks
  obtain ⟨sz, hsz⟩ : ∃ n, w.heap.size = n := ⟨_, rfl⟩
  rw [hsz] at HN1 HN2 hsb hN hsS hwn
  have HNS : Aside0 (∀ g, sz ≤ g → ¬ S g) := ⟨fun g hg hs => by have := hsS g hs; omega⟩
  have hszc : wc.heap.size = sz + 2 := by omega
  have HP6 : Aside0 (PartB wc (sz + 1) none 0 0 none 0 0 false) := ⟨HN2.out⟩
  have hNc : N ≤ wc.heap.size := by omega
  obtain ⟨kb, ko, k0, t0, A0, n0, c0, B0, m0, d0, rfl, hkS, hq0, ⟨a00, a01, a02, a03⟩⟩ := one_cells hks2
  have CX : Aside0 (Calls Tryd.prog 66 #[.pointer (some ⟨b, 0, none⟩), .agg #[.int .i64 k0, .string t0, .slice A0 n0 c0, .slice B0 m0 d0], .bool (!back)] wc (PartP N b (al ++ (r.lay (!back)).lv) ((r.lay (!back)).bf al.length bh) ((r.lay (!back)).fi al.length) ((r.lay (!back)).la al.length) (r.lay (!back)).nl S wc)) := ⟨hr (!back) wc N b al bh S HAc.out hNc k0 t0 A0 n0 c0 B0 m0 d0 hq0 (hb.one (Nat.le_refl _))⟩
  show Calls _ _ _ _ (PartP N b (al ++ (r.lay (!back)).lv) ((r.lay (!back)).bf al.length bh) ((r.lay (!back)).fi al.length) ((r.lay (!back)).la al.length) (r.lay (!back)).nl S w)
  obtain ⟨X, hX⟩ : ∃ e, r.lay (!back) = e := ⟨_, rfl⟩
  rw [hX] at CX ⊢
  obtain ⟨f1, hf1⟩ : ∃ l, X.fi al.length = l := ⟨_, rfl⟩
  obtain ⟨l1, hl1⟩ : ∃ l, X.la al.length = l := ⟨_, rfl⟩
  obtain ⟨e1, he1⟩ : ∃ l, X.nl = l := ⟨_, rfl⟩
  rw [hf1, hl1, he1] at CX ⊢
  clear hX hf1 hl1 he1 hr hb
  clear hp hks hks2 hwb hwc HB HN HB2 HN2 hsb hsc h hsS HBc hts
  go_enter Tryd.func66, Tryd.ntmps66
  go_upto_region 1 with (fail)
  rw [HW1.out, HW2.out]
  clear HW1 HW2
  have q0 := (blk_cell HN1.out 0).trans rfl
  have q1 := (blk_cell HN1.out 1).trans rfl
  have q2 := (blk_cell HN1.out 2).trans rfl
  have q3 := (blk_cell HN1.out 3).trans rfl
  go_wp2_with (go_at_call 66; (with_reducible refine CX.out.mono ?_); rintro e w1 ⟨S1, hA, hF, F1, cF1, L1, cL1, rfl, hf, hl⟩; have HPr : Aside0 (PartB w1 (sz + 1) none 0 0 none 0 0 false) := ⟨hF.blk HP6.out (HAc.out.not_part HP6.out)⟩; have HAq := Aside0.mk hA; have HFq := Aside0.mk hF; have HIf := Aside0.mk hf; have HIl := Aside0.mk hl; obtain ⟨p0, p1, p2, u0, u1, u2⟩ := HPr.out.cells; clear hA hF hf hl)
  obtain ⟨wx, hwx⟩ : ∃ x, x = ((w1.setCell ⟨sz + 1, 0, none⟩ (.slice F1 f1.length cF1)).setCell ⟨sz + 1, 1, none⟩ (.slice L1 l1.length cL1)).setCell ⟨sz + 1, 2, none⟩ (.bool e1) := ⟨_, rfl⟩
  have HW := Aside0.mk hwx.symm
  have hbt : Bt (sz + 1) w1 wx := by rw [hwx]; exact Bt.set3 _ _ _ _ _
  have HPx : Aside0 (PartB wx (sz + 1) F1 f1.length cF1 L1 l1.length cL1 e1) := ⟨by rw [hwx]; exact HPr.out.set3⟩
  have HAx := Aside0.mk (HAq.out.far HPr.out hbt)
  have HFx := Aside0.mk ((HFc.out.trans HFq.out).far hbt (by omega))
  have HI1 := Aside0.mk (HIf.out.far HPr.out hbt)
  have HI2 := Aside0.mk (HIl.out.far HPr.out hbt)
  clear hwx hbt
  first | rw [HW.out] | (simp only [List.length_singleton] at HW HPx ⊢; rw [HW.out])
  obtain ⟨z0, z1, z2, -⟩ := HPx.out.cells
  clear HW
  refine bodyPost_ret (by simp [results, Tryd.results66, go_sem, z0, z1, z2]; try rfl) rfl ?_
  exact ⟨_, HAx.out, HFx.out, F1, cF1, L1, cL1, by first | rfl | simp, HI1.out, HI2.out⟩
set_option maxRecDepth 100000 in
set_option maxHeartbeats 16000000 in
theorem build_alt (r s : Rx) (hr : BuildC r) (hs : BuildC s) : BuildC (.alt r s) := by
  intro back w N b al bh S h hN k t A n c B m d hp hb
  obtain ⟨A9, c9, B9, d9, e0, -, -, -, hts, hks⟩ := p_cells (k := 4) hp
  simp only [List.cons.injEq, Value.int.injEq, Value.string.injEq, Value.slice.injEq, true_and, and_true, List.length_nil, List.length_cons, Nat.zero_add, Nat.reduceAdd] at e0
  obtain ⟨rfl, rfl, ⟨rfl, rfl, rfl⟩, rfl, rfl, rfl⟩ := e0
  obtain ⟨wb, hwb, HB, HN, hsb⟩ := boxA w #[.int .i64 4, .string ⟨#[]⟩, .slice A 0 c, .slice B 2 d] 25
  obtain ⟨wc, hwc, HB2, HN2, hsc⟩ := boxA wb #[.slice none 0 0, .slice none 0 0, .bool false] 98
  have HW1 := Aside0.mk hwb.symm
  have HW2 := Aside0.mk hwc.symm
  have HBc := Aside0.mk (HB.out.trans (HB2.out.mono HB.out.size))
  have HAc := Aside0.mk (h.below HBc.out)
  have HFc : Aside0 (Fr S w S wc) := ⟨Fr.of HBc.out⟩
  have HN1 := Aside0.mk (blk_below HN.out HB2.out)
  rw [hsb] at HN2
  have hsS : ∀ g, S g → g < w.heap.size := fun g hg => (h.lt hg).2
  have hwn : w.heap.size ≤ wc.heap.size := HBc.out.size
  have hks2 := HFc.out.kids hks
  obtain ⟨sz, hsz⟩ : ∃ n, w.heap.size = n := ⟨_, rfl⟩
  rw [hsz] at HN1 HN2 hsb hN hsS hwn
  have HNS : Aside0 (∀ g, sz ≤ g → ¬ S g) := ⟨fun g hg hs => by have := hsS g hs; omega⟩
  have hszc : wc.heap.size = sz + 2 := by omega
  have HP6 : Aside0 (PartB wc (sz + 1) none 0 0 none 0 0 false) := ⟨HN2.out⟩
  have hNc : N ≤ wc.heap.size := by omega
  have hpc := HFc.out.path hp
  have CX : Aside0 (Calls Tryd.prog 97 #[.pointer (some ⟨b, 0, none⟩), .agg #[.int .i64 4, .string ⟨#[]⟩, .slice A 0 c, .slice B 2 d], .bool back] wc (PartP N b (al ++ ((Rx.alt r s).lay back).lv) (((Rx.alt r s).lay back).bf al.length bh) (((Rx.alt r s).lay back).fi al.length) (((Rx.alt r s).lay back).la al.length) ((Rx.alt r s).lay back).nl S wc)) := ⟨by
    exact two_alt r s hr hs back wc N b al bh S HAc.out hNc _ _ _ _ _ _ _ _ hpc hb⟩
  obtain ⟨X, hX⟩ : ∃ e, (Rx.alt r s).lay back = e := ⟨_, rfl⟩
  rw [hX] at CX ⊢
  obtain ⟨f1, hf1⟩ : ∃ l, X.fi al.length = l := ⟨_, rfl⟩
  obtain ⟨l1, hl1⟩ : ∃ l, X.la al.length = l := ⟨_, rfl⟩
  obtain ⟨e1, he1⟩ : ∃ l, X.nl = l := ⟨_, rfl⟩
  rw [hf1, hl1, he1] at CX ⊢
  clear hX hf1 hl1 he1 hr hs hb hpc
  clear hp hks hks2 hwb hwc HB HN HB2 HN2 hsb hsc h hsS HBc hts
  go_enter Tryd.func66, Tryd.ntmps66
  go_upto_region 1 with (fail)
  rw [HW1.out, HW2.out]
  clear HW1 HW2
  have q0 := (blk_cell HN1.out 0).trans rfl
  have q1 := (blk_cell HN1.out 1).trans rfl
  have q2 := (blk_cell HN1.out 2).trans rfl
  have q3 := (blk_cell HN1.out 3).trans rfl
  go_wp2_with (go_at_call 97; (with_reducible refine CX.out.mono ?_); rintro e w1 ⟨S1, hA, hF, F1, cF1, L1, cL1, rfl, hf, hl⟩; have HPr : Aside0 (PartB w1 (sz + 1) none 0 0 none 0 0 false) := ⟨hF.blk HP6.out (HAc.out.not_part HP6.out)⟩; have HAq := Aside0.mk hA; have HFq := Aside0.mk hF; have HIf := Aside0.mk hf; have HIl := Aside0.mk hl; obtain ⟨p0, p1, p2, u0, u1, u2⟩ := HPr.out.cells; clear hA hF hf hl)
  obtain ⟨wx, hwx⟩ : ∃ x, x = ((w1.setCell ⟨sz + 1, 0, none⟩ (.slice F1 f1.length cF1)).setCell ⟨sz + 1, 1, none⟩ (.slice L1 l1.length cL1)).setCell ⟨sz + 1, 2, none⟩ (.bool e1) := ⟨_, rfl⟩
  have HW := Aside0.mk hwx.symm
  have hbt : Bt (sz + 1) w1 wx := by rw [hwx]; exact Bt.set3 _ _ _ _ _
  have HPx : Aside0 (PartB wx (sz + 1) F1 f1.length cF1 L1 l1.length cL1 e1) := ⟨by rw [hwx]; exact HPr.out.set3⟩
  have HAx := Aside0.mk (HAq.out.far HPr.out hbt)
  have HFx := Aside0.mk ((HFc.out.trans HFq.out).far hbt (by omega))
  have HI1 := Aside0.mk (HIf.out.far HPr.out hbt)
  have HI2 := Aside0.mk (HIl.out.far HPr.out hbt)
  clear hwx hbt
  first | rw [HW.out] | (simp only [List.length_singleton] at HW HPx ⊢; rw [HW.out])
  obtain ⟨z0, z1, z2, -⟩ := HPx.out.cells
  clear HW
  refine bodyPost_ret (by simp [results, Tryd.results66, go_sem, z0, z1, z2]; try rfl) rfl ?_
  exact ⟨_, HAx.out, HFx.out, F1, cF1, L1, cL1, by first | rfl | simp, HI1.out, HI2.out⟩
set_option maxRecDepth 100000 in
set_option maxHeartbeats 16000000 in
theorem build_seq (r s : Rx) (hr : BuildC r) (hs : BuildC s) : BuildC (.seq r s) := by
  intro back w N b al bh S h hN k t A n c B m d hp hb
  obtain ⟨A9, c9, B9, d9, e0, -, -, -, hts, hks⟩ := p_cells (k := 3) hp
  simp only [List.cons.injEq, Value.int.injEq, Value.string.injEq, Value.slice.injEq, true_and, and_true, List.length_nil, List.length_cons, Nat.zero_add, Nat.reduceAdd] at e0
  obtain ⟨rfl, rfl, ⟨rfl, rfl, rfl⟩, rfl, rfl, rfl⟩ := e0
  obtain ⟨wb, hwb, HB, HN, hsb⟩ := boxA w #[.int .i64 3, .string ⟨#[]⟩, .slice A 0 c, .slice B 2 d] 25
  obtain ⟨wc, hwc, HB2, HN2, hsc⟩ := boxA wb #[.slice none 0 0, .slice none 0 0, .bool false] 98
  have HW1 := Aside0.mk hwb.symm
  have HW2 := Aside0.mk hwc.symm
  have HBc := Aside0.mk (HB.out.trans (HB2.out.mono HB.out.size))
  have HAc := Aside0.mk (h.below HBc.out)
  have HFc : Aside0 (Fr S w S wc) := ⟨Fr.of HBc.out⟩
  have HN1 := Aside0.mk (blk_below HN.out HB2.out)
  rw [hsb] at HN2
  have hsS : ∀ g, S g → g < w.heap.size := fun g hg => (h.lt hg).2
  have hwn : w.heap.size ≤ wc.heap.size := HBc.out.size
  have hks2 := HFc.out.kids hks
  obtain ⟨sz, hsz⟩ : ∃ n, w.heap.size = n := ⟨_, rfl⟩
  rw [hsz] at HN1 HN2 hsb hN hsS hwn
  have HNS : Aside0 (∀ g, sz ≤ g → ¬ S g) := ⟨fun g hg hs => by have := hsS g hs; omega⟩
  have hszc : wc.heap.size = sz + 2 := by omega
  have HP6 : Aside0 (PartB wc (sz + 1) none 0 0 none 0 0 false) := ⟨HN2.out⟩
  have hNc : N ≤ wc.heap.size := by omega
  have hpc := HFc.out.path hp
  have CX : Aside0 (Calls Tryd.prog 97 #[.pointer (some ⟨b, 0, none⟩), .agg #[.int .i64 3, .string ⟨#[]⟩, .slice A 0 c, .slice B 2 d], .bool back] wc (PartP N b (al ++ ((Rx.seq r s).lay back).lv) (((Rx.seq r s).lay back).bf al.length bh) (((Rx.seq r s).lay back).fi al.length) (((Rx.seq r s).lay back).la al.length) ((Rx.seq r s).lay back).nl S wc)) := ⟨by
    cases back
    · exact two_seq_f r s hr hs wc N b al bh S HAc.out hNc _ _ _ _ _ _ _ _ hpc hb
    · exact two_seq_t r s hr hs wc N b al bh S HAc.out hNc _ _ _ _ _ _ _ _ hpc hb⟩
  obtain ⟨X, hX⟩ : ∃ e, (Rx.seq r s).lay back = e := ⟨_, rfl⟩
  rw [hX] at CX ⊢
  obtain ⟨f1, hf1⟩ : ∃ l, X.fi al.length = l := ⟨_, rfl⟩
  obtain ⟨l1, hl1⟩ : ∃ l, X.la al.length = l := ⟨_, rfl⟩
  obtain ⟨e1, he1⟩ : ∃ l, X.nl = l := ⟨_, rfl⟩
  rw [hf1, hl1, he1] at CX ⊢
  clear hX hf1 hl1 he1 hr hs hb hpc
  clear hp hks hks2 hwb hwc HB HN HB2 HN2 hsb hsc h hsS HBc hts
  go_enter Tryd.func66, Tryd.ntmps66
  go_upto_region 1 with (fail)
  rw [HW1.out, HW2.out]
  clear HW1 HW2
  have q0 := (blk_cell HN1.out 0).trans rfl
  have q1 := (blk_cell HN1.out 1).trans rfl
  have q2 := (blk_cell HN1.out 2).trans rfl
  have q3 := (blk_cell HN1.out 3).trans rfl
  go_wp2_with (go_at_call 97; (with_reducible refine CX.out.mono ?_); rintro e w1 ⟨S1, hA, hF, F1, cF1, L1, cL1, rfl, hf, hl⟩; have HPr : Aside0 (PartB w1 (sz + 1) none 0 0 none 0 0 false) := ⟨hF.blk HP6.out (HAc.out.not_part HP6.out)⟩; have HAq := Aside0.mk hA; have HFq := Aside0.mk hF; have HIf := Aside0.mk hf; have HIl := Aside0.mk hl; obtain ⟨p0, p1, p2, u0, u1, u2⟩ := HPr.out.cells; clear hA hF hf hl)
  obtain ⟨wx, hwx⟩ : ∃ x, x = ((w1.setCell ⟨sz + 1, 0, none⟩ (.slice F1 f1.length cF1)).setCell ⟨sz + 1, 1, none⟩ (.slice L1 l1.length cL1)).setCell ⟨sz + 1, 2, none⟩ (.bool e1) := ⟨_, rfl⟩
  have HW := Aside0.mk hwx.symm
  have hbt : Bt (sz + 1) w1 wx := by rw [hwx]; exact Bt.set3 _ _ _ _ _
  have HPx : Aside0 (PartB wx (sz + 1) F1 f1.length cF1 L1 l1.length cL1 e1) := ⟨by rw [hwx]; exact HPr.out.set3⟩
  have HAx := Aside0.mk (HAq.out.far HPr.out hbt)
  have HFx := Aside0.mk ((HFc.out.trans HFq.out).far hbt (by omega))
  have HI1 := Aside0.mk (HIf.out.far HPr.out hbt)
  have HI2 := Aside0.mk (HIl.out.far HPr.out hbt)
  clear hwx hbt
  first | rw [HW.out] | (simp only [List.length_singleton] at HW HPx ⊢; rw [HW.out])
  obtain ⟨z0, z1, z2, -⟩ := HPx.out.cells
  clear HW
  refine bodyPost_ret (by simp [results, Tryd.results66, go_sem, z0, z1, z2]; try rfl) rfl ?_
  exact ⟨_, HAx.out, HFx.out, F1, cF1, L1, cL1, by first | rfl | simp, HI1.out, HI2.out⟩
set_option maxRecDepth 100000 in
set_option maxHeartbeats 16000000 in
theorem build_star (r : Rx) (hr : BuildC r) : BuildC (.star r) := by
  intro back w N b al bh S h hN k t A n c B m d hp hb
  obtain ⟨A9, c9, B9, d9, e0, -, -, -, hts, hks⟩ := p_cells (k := 5) hp
  simp only [List.cons.injEq, Value.int.injEq, Value.string.injEq, Value.slice.injEq, true_and, and_true, List.length_nil, List.length_cons, Nat.zero_add, Nat.reduceAdd] at e0
  obtain ⟨rfl, rfl, ⟨rfl, rfl, rfl⟩, rfl, rfl, rfl⟩ := e0
  obtain ⟨wb, hwb, HB, HN, hsb⟩ := boxA w #[.int .i64 5, .string ⟨#[]⟩, .slice A 0 c, .slice B 1 d] 25
  obtain ⟨wc, hwc, HB2, HN2, hsc⟩ := boxA wb #[.slice none 0 0, .slice none 0 0, .bool false] 98
  have HW1 := Aside0.mk hwb.symm
  have HW2 := Aside0.mk hwc.symm
  have HBc := Aside0.mk (HB.out.trans (HB2.out.mono HB.out.size))
  have HAc := Aside0.mk (h.below HBc.out)
  have HFc : Aside0 (Fr S w S wc) := ⟨Fr.of HBc.out⟩
  have HN1 := Aside0.mk (blk_below HN.out HB2.out)
  rw [hsb] at HN2
  have hsS : ∀ g, S g → g < w.heap.size := fun g hg => (h.lt hg).2
  have hwn : w.heap.size ≤ wc.heap.size := HBc.out.size
  have hks2 := HFc.out.kids hks
  obtain ⟨sz, hsz⟩ : ∃ n, w.heap.size = n := ⟨_, rfl⟩
  rw [hsz] at HN1 HN2 hsb hN hsS hwn
  have HNS : Aside0 (∀ g, sz ≤ g → ¬ S g) := ⟨fun g hg hs => by have := hsS g hs; omega⟩
  have hszc : wc.heap.size = sz + 2 := by omega
  have HP6 : Aside0 (PartB wc (sz + 1) none 0 0 none 0 0 false) := ⟨HN2.out⟩
  have hNc : N ≤ wc.heap.size := by omega
  obtain ⟨kb, ko, k0, t0, A0, n0, c0, B0, m0, d0, rfl, hkS, hq0, ⟨a00, a01, a02, a03⟩⟩ := one_cells hks2
  have CX : Aside0 (Calls Tryd.prog 66 #[.pointer (some ⟨b, 0, none⟩), .agg #[.int .i64 k0, .string t0, .slice A0 n0 c0, .slice B0 m0 d0], .bool back] wc (PartP N b (al ++ (r.lay back).lv) ((r.lay back).bf al.length bh) ((r.lay back).fi al.length) ((r.lay back).la al.length) (r.lay back).nl S wc)) := ⟨hr back wc N b al bh S HAc.out hNc k0 t0 A0 n0 c0 B0 m0 d0 hq0 (hb.one (Nat.le_refl _))⟩
  have hbq := hb
  have hxz := r.lay_sz back
  have hlay : (Rx.star r).lay back = .star (r.lay back) := rfl
  rw [hlay]
  obtain ⟨X, hX⟩ : ∃ e, r.lay back = e := ⟨_, rfl⟩
  rw [hX] at CX hxz ⊢
  have hXs : X.n ≤ 30 := by have h1 := X.n_sz; have h3 := hbq.1; have h4 : (Rx.star r).sz = r.sz + 1 := rfl; omega
  obtain ⟨al1, hal1⟩ : ∃ l, al ++ X.lv = l := ⟨_, rfl⟩
  obtain ⟨bh1, hbh1⟩ : ∃ l, X.bf al.length bh = l := ⟨_, rfl⟩
  obtain ⟨f1, hf1⟩ : ∃ l, X.fi al.length = l := ⟨_, rfl⟩
  obtain ⟨l1, hl1⟩ : ∃ l, X.la al.length = l := ⟨_, rfl⟩
  obtain ⟨e1, he1⟩ : ∃ l, X.nl = l := ⟨_, rfl⟩
  have HEND : Aside0 (al ++ (Lx.star X).lv = al1 ∧ (Lx.star X).bf al.length bh = addTo bh1 l1 f1 ∧ (Lx.star X).fi al.length = f1 ∧ (Lx.star X).la al.length = l1 ∧ (Lx.star X).nl = true) := ⟨by
    refine ⟨?_, ?_, ?_, ?_, ?_⟩
    · rw [← hal1]; rfl
    · rw [← hbh1, ← hl1, ← hf1]; rfl
    · rw [← hf1]; rfl
    · rw [← hl1]; rfl
    · rfl⟩
  have hlf1 : 0 < f1.length ∧ f1.length ≤ 30 := by rw [← hf1]; have := X.fi_len al.length; omega
  have hll1 : 0 < l1.length ∧ l1.length ≤ 30 := by rw [← hl1]; have := X.la_len al.length; omega
  have hb1l : bh1.length = al.length + 1 + X.n := by rw [← hbh1, Lx.bf_length, hbq.2.2.1]
  have hb1r : ∀ i, (bh1.getD i []).length ≤ 60000 := fun i => by
    have h1 := X.bf_len i al.length bh (by have := hbq.1; have h4 : (Rx.star r).sz = r.sz + 1 := rfl; omega)
    have h3 := hbq.2.2.2 i
    have h4 : (Rx.star r).sz = r.sz + 1 := rfl
    rw [hbh1] at h1
    omega
  have hlb : ∀ n ∈ l1, n < bh1.length := fun n hn => by
    rw [← hl1] at hn
    have := X.la_in al.length n hn
    unfold In at this
    omega
  have hb1m : bh1.length ≤ 1001 := by have := hbq.2.1; have := hbq.1; omega
  have CJ : Aside0 (∀ W S2 L1 cL1 F1 cF1, Aut W N b al1 bh1 S2 → N ≤ W.heap.size → IntsAt W (fun g => ¬ S2 g) L1 l1 → IntsAt W (fun g => ¬ S2 g) F1 f1 → Calls Tryd.prog 98 #[.pointer (some ⟨b, 0, none⟩), .slice L1 l1.length cL1, .slice F1 f1.length cF1] W (JoinP N b al1 (addTo bh1 l1 f1) S2 W)) := ⟨fun W S2 L1 cL1 F1 cF1 hA hN h1 h2 => joins_any W N b al1 bh1 S2 hA L1 l1 cL1 F1 f1 cF1 h1 h2 hlf1.1 hlb hll1.2 hlf1.2 hb1r hb1m⟩
  rw [hal1, hbh1, hf1, hl1, he1] at CX
  rw [HEND.out.1, HEND.out.2.1, HEND.out.2.2.1, HEND.out.2.2.2.1, HEND.out.2.2.2.2]
  have HFz : Aside0 (Fr S wc S wc) := ⟨Fr.refl _ _⟩
  clear hX hal1 hbh1 hf1 hl1 he1 hr hb hbq hxz hXs HEND hlf1 hll1 hb1l hb1r hlb hb1m hlay
  clear hp hks hks2 hwb hwc HB HN HB2 HN2 hsb hsc h hsS HBc hts
  go_enter Tryd.func66, Tryd.ntmps66
  go_upto_region 1 with (fail)
  rw [HW1.out, HW2.out]
  clear HW1 HW2
  have q0 := (blk_cell HN1.out 0).trans rfl
  have q1 := (blk_cell HN1.out 1).trans rfl
  have q2 := (blk_cell HN1.out 2).trans rfl
  have q3 := (blk_cell HN1.out 3).trans rfl
  go_upto_region 12 with (go_at_call 66; (with_reducible refine CX.out.mono ?_); rintro e w1 ⟨S1, hA, hF, F1, cF1, L1, cL1, rfl, hf, hl⟩; have HAq1 := Aside0.mk hA; have HFq1 := Aside0.mk hF; have HIf1 := Aside0.mk hf; have HIl1 := Aside0.mk hl; clear hA hF hf hl; obtain ⟨w2, hw2, HBa, HNa, hsa⟩ := boxA w1 #[.slice F1 f1.length cF1, .slice L1 l1.length cL1, .bool e1] 98; have HPa : Aside0 (PartB w2 w1.heap.size F1 f1.length cF1 L1 l1.length cL1 e1) := ⟨HNa.out⟩; have HWa := Aside0.mk hw2.symm; clear hw2 hsa HNa)
  rw [HWa.out]
  clear HWa q0 q1 q2 q3 a00 a01 a02 a03
  have HA_22 := Aside0.mk HAq1.out
  have HF_22 := Aside0.mk (HFz.out.trans HFq1.out)
  have HPr_22 : Aside0 (PartB w1 (sz + 1) none 0 0 none 0 0 false) := ⟨HFq1.out.blk HP6.out (HAc.out.not_part HP6.out)⟩
  have HN1a := Aside0.mk (HFq1.out.blk HN1.out (HNS.out sz (Nat.le_refl _)))
  have HN1b := Aside0.mk (blk_below HN1a.out HBa.out)
  have HA_23 := Aside0.mk (HA_22.out.below HBa.out)
  have HF_23 := Aside0.mk (HF_22.out.trans (Fr.of HBa.out))
  have HPr_23 := Aside0.mk (HPr_22.out.below HBa.out)
  have HIf1_23 := Aside0.mk (HIf1.out.below HBa.out)
  have HIl1_23 := Aside0.mk (HIl1.out.below HBa.out)
  have hge1 : sz + 2 ≤ w1.heap.size := by have := HF_22.out.size; omega
  obtain ⟨g1, hg1⟩ : ∃ g, w1.heap.size = g := ⟨_, rfl⟩
  rw [hg1] at HPa hge1 ⊢
  clear HBa HAq1 HFq1 hg1 HIf1 HIl1 HA_22 HF_22 HPr_22
  have q0 := (blk_cell HN1b.out 0).trans rfl
  obtain ⟨p0, p1, p2, -⟩ := HPa.out.cells
  have hN2 : N ≤ w2.heap.size := by have := HF_23.out.size; omega
  go_upto_region 14 with (go_at_call 98; (with_reducible refine (CJ.out _ _ _ _ _ _ HA_23.out hN2 HIl1_23.out HIf1_23.out).mono ?_); rintro e w5 ⟨rfl, S3, hA, hF⟩; have HAq3 := Aside0.mk hA; have HFq3 := Aside0.mk hF; clear hA hF p0 p1 p2 q0)
  have HN1c := Aside0.mk (HFq3.out.blk HN1b.out (fun hs => by have h1 := HNS.out sz (Nat.le_refl _); exact HA_23.out.not_path HN1b.out hs))
  have HA_24 := Aside0.mk HAq3.out
  have HF_24 := Aside0.mk (HF_23.out.trans HFq3.out)
  have HPr_24 : Aside0 (PartB w5 (sz + 1) none 0 0 none 0 0 false) := ⟨HFq3.out.blk HPr_23.out (HA_23.out.not_part HPr_23.out)⟩
  have HPg1_24 : Aside0 (PartB w5 g1 F1 f1.length cF1 L1 l1.length cL1 e1) := ⟨HFq3.out.blk HPa.out (HA_23.out.not_part HPa.out)⟩
  have HIf1_24 := Aside0.mk (HFq3.out.ints HIf1_23.out)
  have HIl1_24 := Aside0.mk (HFq3.out.ints HIl1_23.out)
  clear HAq3 HFq3 hN2
  clear HA_23 HF_23 HPr_23 HPa HIf1_23 HIl1_23
  cases e1
  · skip
    have q0 := (blk_cell HN1c.out 0).trans rfl
    obtain ⟨p0, p1, p2, u0, u1, u2⟩ := HPg1_24.out.cells
    go_upto_region 15 with (fail)
    clear q0 p0 p1 p2 u0 u1 u2
    obtain ⟨w7, hw7⟩ : ∃ x, x = w5.setCell ⟨g1, 2, none⟩ (.bool true) := ⟨_, rfl⟩
    rw [← hw7]
    have hbt : Bt g1 w5 w7 := by rw [hw7]; exact Bt.set _ _ _ _
    have HA_25 := Aside0.mk (HA_24.out.far HPg1_24.out hbt)
    have HF_25 := Aside0.mk (HF_24.out.far hbt (by omega))
    have HPr_25 : Aside0 (PartB w7 (sz + 1) none 0 0 none 0 0 false) := ⟨(hbt.keep (sz + 1) (by omega)).trans HPr_24.out⟩
    have HPg1_25 : Aside0 (PartB w7 g1 F1 f1.length cF1 L1 l1.length cL1 true) := ⟨by rw [hw7]; exact blk_set HPg1_24.out 2 _⟩
    have HIf1_25 := Aside0.mk (HIf1_24.out.far HPg1_24.out hbt)
    have HIl1_25 := Aside0.mk (HIl1_24.out.far HPg1_24.out hbt)
    clear hw7 hbt
    clear HA_24 HF_24 HPr_24 HPg1_24 HIf1_24 HIl1_24
    obtain ⟨z0, z1, z2, -⟩ := HPg1_25.out.cells
    obtain ⟨p0, p1, p2, u0, u1, u2⟩ := HPr_25.out.cells
    obtain ⟨wx, hwx⟩ : ∃ x, x = ((w7.setCell ⟨sz + 1, 0, none⟩ (.slice F1 f1.length cF1)).setCell ⟨sz + 1, 1, none⟩ (.slice L1 l1.length cL1)).setCell ⟨sz + 1, 2, none⟩ (.bool true) := ⟨_, rfl⟩
    have hbt : Bt (sz + 1) w7 wx := by rw [hwx]; exact Bt.set3 _ _ _ _ _
    have HW := Aside0.mk hwx.symm
    have HA_26 := Aside0.mk (HA_25.out.far HPr_25.out hbt)
    have HF_26 := Aside0.mk ((HFc.out.trans HF_25.out).far hbt (by omega))
    have HPr_26 : Aside0 (PartB wx (sz + 1) F1 f1.length cF1 L1 l1.length cL1 true) := ⟨by rw [hwx]; exact HPr_25.out.set3⟩
    have HPg1_26 : Aside0 (PartB wx g1 F1 f1.length cF1 L1 l1.length cL1 true) := ⟨(hbt.keep g1 (by omega)).trans HPg1_25.out⟩
    have HIf1_26 := Aside0.mk (HIf1_25.out.far HPr_25.out hbt)
    have HIl1_26 := Aside0.mk (HIl1_25.out.far HPr_25.out hbt)
    clear hwx hbt
    go_wp2_with fail
    rw [HW.out]
    clear z0 z1 z2 p0 p1 p2 u0 u1 u2 HW
    obtain ⟨z0, z1, z2, -⟩ := HPr_26.out.cells
    refine bodyPost_ret (by simp [results, Tryd.results66, go_sem, z0, z1, z2]; try rfl) rfl ?_
    exact ⟨S3, HA_26.out, HF_26.out, F1, cF1, L1, cL1, rfl, HIf1_26.out, HIl1_26.out⟩
  · skip
    have q0 := (blk_cell HN1c.out 0).trans rfl
    obtain ⟨p0, p1, p2, u0, u1, u2⟩ := HPg1_24.out.cells
    go_upto_region 15 with (fail)
    clear q0 p0 p1 p2 u0 u1 u2
    obtain ⟨w7, hw7⟩ : ∃ x, x = w5.setCell ⟨g1, 2, none⟩ (.bool true) := ⟨_, rfl⟩
    rw [← hw7]
    have hbt : Bt g1 w5 w7 := by rw [hw7]; exact Bt.set _ _ _ _
    have HA_27 := Aside0.mk (HA_24.out.far HPg1_24.out hbt)
    have HF_27 := Aside0.mk (HF_24.out.far hbt (by omega))
    have HPr_27 : Aside0 (PartB w7 (sz + 1) none 0 0 none 0 0 false) := ⟨(hbt.keep (sz + 1) (by omega)).trans HPr_24.out⟩
    have HPg1_27 : Aside0 (PartB w7 g1 F1 f1.length cF1 L1 l1.length cL1 true) := ⟨by rw [hw7]; exact blk_set HPg1_24.out 2 _⟩
    have HIf1_27 := Aside0.mk (HIf1_24.out.far HPg1_24.out hbt)
    have HIl1_27 := Aside0.mk (HIl1_24.out.far HPg1_24.out hbt)
    clear hw7 hbt
    clear HA_24 HF_24 HPr_24 HPg1_24 HIf1_24 HIl1_24
    obtain ⟨z0, z1, z2, -⟩ := HPg1_27.out.cells
    obtain ⟨p0, p1, p2, u0, u1, u2⟩ := HPr_27.out.cells
    obtain ⟨wx, hwx⟩ : ∃ x, x = ((w7.setCell ⟨sz + 1, 0, none⟩ (.slice F1 f1.length cF1)).setCell ⟨sz + 1, 1, none⟩ (.slice L1 l1.length cL1)).setCell ⟨sz + 1, 2, none⟩ (.bool true) := ⟨_, rfl⟩
    have hbt : Bt (sz + 1) w7 wx := by rw [hwx]; exact Bt.set3 _ _ _ _ _
    have HW := Aside0.mk hwx.symm
    have HA_28 := Aside0.mk (HA_27.out.far HPr_27.out hbt)
    have HF_28 := Aside0.mk ((HFc.out.trans HF_27.out).far hbt (by omega))
    have HPr_28 : Aside0 (PartB wx (sz + 1) F1 f1.length cF1 L1 l1.length cL1 true) := ⟨by rw [hwx]; exact HPr_27.out.set3⟩
    have HPg1_28 : Aside0 (PartB wx g1 F1 f1.length cF1 L1 l1.length cL1 true) := ⟨(hbt.keep g1 (by omega)).trans HPg1_27.out⟩
    have HIf1_28 := Aside0.mk (HIf1_27.out.far HPr_27.out hbt)
    have HIl1_28 := Aside0.mk (HIl1_27.out.far HPr_27.out hbt)
    clear hwx hbt
    go_wp2_with fail
    rw [HW.out]
    clear z0 z1 z2 p0 p1 p2 u0 u1 u2 HW
    obtain ⟨z0, z1, z2, -⟩ := HPr_28.out.cells
    refine bodyPost_ret (by simp [results, Tryd.results66, go_sem, z0, z1, z2]; try rfl) rfl ?_
    exact ⟨S3, HA_28.out, HF_28.out, F1, cF1, L1, cL1, rfl, HIf1_28.out, HIl1_28.out⟩
set_option maxRecDepth 100000 in
set_option maxHeartbeats 16000000 in
theorem build_plus (r : Rx) (hr : BuildC r) : BuildC (.plus r) := by
  intro back w N b al bh S h hN k t A n c B m d hp hb
  obtain ⟨A9, c9, B9, d9, e0, -, -, -, hts, hks⟩ := p_cells (k := 6) hp
  simp only [List.cons.injEq, Value.int.injEq, Value.string.injEq, Value.slice.injEq, true_and, and_true, List.length_nil, List.length_cons, Nat.zero_add, Nat.reduceAdd] at e0
  obtain ⟨rfl, rfl, ⟨rfl, rfl, rfl⟩, rfl, rfl, rfl⟩ := e0
  obtain ⟨wb, hwb, HB, HN, hsb⟩ := boxA w #[.int .i64 6, .string ⟨#[]⟩, .slice A 0 c, .slice B 1 d] 25
  obtain ⟨wc, hwc, HB2, HN2, hsc⟩ := boxA wb #[.slice none 0 0, .slice none 0 0, .bool false] 98
  have HW1 := Aside0.mk hwb.symm
  have HW2 := Aside0.mk hwc.symm
  have HBc := Aside0.mk (HB.out.trans (HB2.out.mono HB.out.size))
  have HAc := Aside0.mk (h.below HBc.out)
  have HFc : Aside0 (Fr S w S wc) := ⟨Fr.of HBc.out⟩
  have HN1 := Aside0.mk (blk_below HN.out HB2.out)
  rw [hsb] at HN2
  have hsS : ∀ g, S g → g < w.heap.size := fun g hg => (h.lt hg).2
  have hwn : w.heap.size ≤ wc.heap.size := HBc.out.size
  have hks2 := HFc.out.kids hks
  obtain ⟨sz, hsz⟩ : ∃ n, w.heap.size = n := ⟨_, rfl⟩
  rw [hsz] at HN1 HN2 hsb hN hsS hwn
  have HNS : Aside0 (∀ g, sz ≤ g → ¬ S g) := ⟨fun g hg hs => by have := hsS g hs; omega⟩
  have hszc : wc.heap.size = sz + 2 := by omega
  have HP6 : Aside0 (PartB wc (sz + 1) none 0 0 none 0 0 false) := ⟨HN2.out⟩
  have hNc : N ≤ wc.heap.size := by omega
  obtain ⟨kb, ko, k0, t0, A0, n0, c0, B0, m0, d0, rfl, hkS, hq0, ⟨a00, a01, a02, a03⟩⟩ := one_cells hks2
  have CX : Aside0 (Calls Tryd.prog 66 #[.pointer (some ⟨b, 0, none⟩), .agg #[.int .i64 k0, .string t0, .slice A0 n0 c0, .slice B0 m0 d0], .bool back] wc (PartP N b (al ++ (r.lay back).lv) ((r.lay back).bf al.length bh) ((r.lay back).fi al.length) ((r.lay back).la al.length) (r.lay back).nl S wc)) := ⟨hr back wc N b al bh S HAc.out hNc k0 t0 A0 n0 c0 B0 m0 d0 hq0 (hb.one (Nat.le_refl _))⟩
  have hbq := hb
  have hxz := r.lay_sz back
  have hlay : (Rx.plus r).lay back = .plus (r.lay back) := rfl
  rw [hlay]
  obtain ⟨X, hX⟩ : ∃ e, r.lay back = e := ⟨_, rfl⟩
  rw [hX] at CX hxz ⊢
  have hXs : X.n ≤ 30 := by have h1 := X.n_sz; have h3 := hbq.1; have h4 : (Rx.plus r).sz = r.sz + 1 := rfl; omega
  obtain ⟨al1, hal1⟩ : ∃ l, al ++ X.lv = l := ⟨_, rfl⟩
  obtain ⟨bh1, hbh1⟩ : ∃ l, X.bf al.length bh = l := ⟨_, rfl⟩
  obtain ⟨f1, hf1⟩ : ∃ l, X.fi al.length = l := ⟨_, rfl⟩
  obtain ⟨l1, hl1⟩ : ∃ l, X.la al.length = l := ⟨_, rfl⟩
  obtain ⟨e1, he1⟩ : ∃ l, X.nl = l := ⟨_, rfl⟩
  have HEND : Aside0 (al ++ (Lx.plus X).lv = al1 ∧ (Lx.plus X).bf al.length bh = addTo bh1 l1 f1 ∧ (Lx.plus X).fi al.length = f1 ∧ (Lx.plus X).la al.length = l1 ∧ (Lx.plus X).nl = e1) := ⟨by
    refine ⟨?_, ?_, ?_, ?_, ?_⟩
    · rw [← hal1]; rfl
    · rw [← hbh1, ← hl1, ← hf1]; rfl
    · rw [← hf1]; rfl
    · rw [← hl1]; rfl
    · rw [← he1]; rfl⟩
  have hlf1 : 0 < f1.length ∧ f1.length ≤ 30 := by rw [← hf1]; have := X.fi_len al.length; omega
  have hll1 : 0 < l1.length ∧ l1.length ≤ 30 := by rw [← hl1]; have := X.la_len al.length; omega
  have hb1l : bh1.length = al.length + 1 + X.n := by rw [← hbh1, Lx.bf_length, hbq.2.2.1]
  have hb1r : ∀ i, (bh1.getD i []).length ≤ 60000 := fun i => by
    have h1 := X.bf_len i al.length bh (by have := hbq.1; have h4 : (Rx.plus r).sz = r.sz + 1 := rfl; omega)
    have h3 := hbq.2.2.2 i
    have h4 : (Rx.plus r).sz = r.sz + 1 := rfl
    rw [hbh1] at h1
    omega
  have hlb : ∀ n ∈ l1, n < bh1.length := fun n hn => by
    rw [← hl1] at hn
    have := X.la_in al.length n hn
    unfold In at this
    omega
  have hb1m : bh1.length ≤ 1001 := by have := hbq.2.1; have := hbq.1; omega
  have CJ : Aside0 (∀ W S2 L1 cL1 F1 cF1, Aut W N b al1 bh1 S2 → N ≤ W.heap.size → IntsAt W (fun g => ¬ S2 g) L1 l1 → IntsAt W (fun g => ¬ S2 g) F1 f1 → Calls Tryd.prog 98 #[.pointer (some ⟨b, 0, none⟩), .slice L1 l1.length cL1, .slice F1 f1.length cF1] W (JoinP N b al1 (addTo bh1 l1 f1) S2 W)) := ⟨fun W S2 L1 cL1 F1 cF1 hA hN h1 h2 => joins_any W N b al1 bh1 S2 hA L1 l1 cL1 F1 f1 cF1 h1 h2 hlf1.1 hlb hll1.2 hlf1.2 hb1r hb1m⟩
  rw [hal1, hbh1, hf1, hl1, he1] at CX
  rw [HEND.out.1, HEND.out.2.1, HEND.out.2.2.1, HEND.out.2.2.2.1, HEND.out.2.2.2.2]
  have HFz : Aside0 (Fr S wc S wc) := ⟨Fr.refl _ _⟩
  clear hX hal1 hbh1 hf1 hl1 he1 hr hb hbq hxz hXs HEND hlf1 hll1 hb1l hb1r hlb hb1m hlay
  clear hp hks hks2 hwb hwc HB HN HB2 HN2 hsb hsc h hsS HBc hts
  go_enter Tryd.func66, Tryd.ntmps66
  go_upto_region 1 with (fail)
  rw [HW1.out, HW2.out]
  clear HW1 HW2
  have q0 := (blk_cell HN1.out 0).trans rfl
  have q1 := (blk_cell HN1.out 1).trans rfl
  have q2 := (blk_cell HN1.out 2).trans rfl
  have q3 := (blk_cell HN1.out 3).trans rfl
  go_upto_region 12 with (go_at_call 66; (with_reducible refine CX.out.mono ?_); rintro e w1 ⟨S1, hA, hF, F1, cF1, L1, cL1, rfl, hf, hl⟩; have HAq1 := Aside0.mk hA; have HFq1 := Aside0.mk hF; have HIf1 := Aside0.mk hf; have HIl1 := Aside0.mk hl; clear hA hF hf hl; obtain ⟨w2, hw2, HBa, HNa, hsa⟩ := boxA w1 #[.slice F1 f1.length cF1, .slice L1 l1.length cL1, .bool e1] 98; have HPa : Aside0 (PartB w2 w1.heap.size F1 f1.length cF1 L1 l1.length cL1 e1) := ⟨HNa.out⟩; have HWa := Aside0.mk hw2.symm; clear hw2 hsa HNa)
  rw [HWa.out]
  clear HWa q0 q1 q2 q3 a00 a01 a02 a03
  have HA_29 := Aside0.mk HAq1.out
  have HF_29 := Aside0.mk (HFz.out.trans HFq1.out)
  have HPr_29 : Aside0 (PartB w1 (sz + 1) none 0 0 none 0 0 false) := ⟨HFq1.out.blk HP6.out (HAc.out.not_part HP6.out)⟩
  have HN1a := Aside0.mk (HFq1.out.blk HN1.out (HNS.out sz (Nat.le_refl _)))
  have HN1b := Aside0.mk (blk_below HN1a.out HBa.out)
  have HA_30 := Aside0.mk (HA_29.out.below HBa.out)
  have HF_30 := Aside0.mk (HF_29.out.trans (Fr.of HBa.out))
  have HPr_30 := Aside0.mk (HPr_29.out.below HBa.out)
  have HIf1_30 := Aside0.mk (HIf1.out.below HBa.out)
  have HIl1_30 := Aside0.mk (HIl1.out.below HBa.out)
  have hge1 : sz + 2 ≤ w1.heap.size := by have := HF_29.out.size; omega
  obtain ⟨g1, hg1⟩ : ∃ g, w1.heap.size = g := ⟨_, rfl⟩
  rw [hg1] at HPa hge1 ⊢
  clear HBa HAq1 HFq1 hg1 HIf1 HIl1 HA_29 HF_29 HPr_29
  have q0 := (blk_cell HN1b.out 0).trans rfl
  obtain ⟨p0, p1, p2, -⟩ := HPa.out.cells
  have hN2 : N ≤ w2.heap.size := by have := HF_30.out.size; omega
  go_upto_region 14 with (go_at_call 98; (with_reducible refine (CJ.out _ _ _ _ _ _ HA_30.out hN2 HIl1_30.out HIf1_30.out).mono ?_); rintro e w5 ⟨rfl, S3, hA, hF⟩; have HAq3 := Aside0.mk hA; have HFq3 := Aside0.mk hF; clear hA hF p0 p1 p2 q0)
  have HN1c := Aside0.mk (HFq3.out.blk HN1b.out (fun hs => by have h1 := HNS.out sz (Nat.le_refl _); exact HA_30.out.not_path HN1b.out hs))
  have HA_31 := Aside0.mk HAq3.out
  have HF_31 := Aside0.mk (HF_30.out.trans HFq3.out)
  have HPr_31 : Aside0 (PartB w5 (sz + 1) none 0 0 none 0 0 false) := ⟨HFq3.out.blk HPr_30.out (HA_30.out.not_part HPr_30.out)⟩
  have HPg1_31 : Aside0 (PartB w5 g1 F1 f1.length cF1 L1 l1.length cL1 e1) := ⟨HFq3.out.blk HPa.out (HA_30.out.not_part HPa.out)⟩
  have HIf1_31 := Aside0.mk (HFq3.out.ints HIf1_30.out)
  have HIl1_31 := Aside0.mk (HFq3.out.ints HIl1_30.out)
  clear HAq3 HFq3 hN2
  clear HA_30 HF_30 HPr_30 HPa HIf1_30 HIl1_30
  cases e1
  · skip
    have q0 := (blk_cell HN1c.out 0).trans rfl
    obtain ⟨p0, p1, p2, u0, u1, u2⟩ := HPg1_31.out.cells
    go_upto_region 15 with (fail)
    clear q0 p0 p1 p2 u0 u1 u2
    obtain ⟨w7, hw7⟩ : ∃ x, x = w5.setCell ⟨g1, 2, none⟩ (.bool false) := ⟨_, rfl⟩
    rw [← hw7]
    have hbt : Bt g1 w5 w7 := by rw [hw7]; exact Bt.set _ _ _ _
    have HA_32 := Aside0.mk (HA_31.out.far HPg1_31.out hbt)
    have HF_32 := Aside0.mk (HF_31.out.far hbt (by omega))
    have HPr_32 : Aside0 (PartB w7 (sz + 1) none 0 0 none 0 0 false) := ⟨(hbt.keep (sz + 1) (by omega)).trans HPr_31.out⟩
    have HPg1_32 : Aside0 (PartB w7 g1 F1 f1.length cF1 L1 l1.length cL1 false) := ⟨by rw [hw7]; exact blk_set HPg1_31.out 2 _⟩
    have HIf1_32 := Aside0.mk (HIf1_31.out.far HPg1_31.out hbt)
    have HIl1_32 := Aside0.mk (HIl1_31.out.far HPg1_31.out hbt)
    clear hw7 hbt
    clear HA_31 HF_31 HPr_31 HPg1_31 HIf1_31 HIl1_31
    obtain ⟨z0, z1, z2, -⟩ := HPg1_32.out.cells
    obtain ⟨p0, p1, p2, u0, u1, u2⟩ := HPr_32.out.cells
    obtain ⟨wx, hwx⟩ : ∃ x, x = ((w7.setCell ⟨sz + 1, 0, none⟩ (.slice F1 f1.length cF1)).setCell ⟨sz + 1, 1, none⟩ (.slice L1 l1.length cL1)).setCell ⟨sz + 1, 2, none⟩ (.bool false) := ⟨_, rfl⟩
    have hbt : Bt (sz + 1) w7 wx := by rw [hwx]; exact Bt.set3 _ _ _ _ _
    have HW := Aside0.mk hwx.symm
    have HA_33 := Aside0.mk (HA_32.out.far HPr_32.out hbt)
    have HF_33 := Aside0.mk ((HFc.out.trans HF_32.out).far hbt (by omega))
    have HPr_33 : Aside0 (PartB wx (sz + 1) F1 f1.length cF1 L1 l1.length cL1 false) := ⟨by rw [hwx]; exact HPr_32.out.set3⟩
    have HPg1_33 : Aside0 (PartB wx g1 F1 f1.length cF1 L1 l1.length cL1 false) := ⟨(hbt.keep g1 (by omega)).trans HPg1_32.out⟩
    have HIf1_33 := Aside0.mk (HIf1_32.out.far HPr_32.out hbt)
    have HIl1_33 := Aside0.mk (HIl1_32.out.far HPr_32.out hbt)
    clear hwx hbt
    go_wp2_with fail
    rw [HW.out]
    clear z0 z1 z2 p0 p1 p2 u0 u1 u2 HW
    obtain ⟨z0, z1, z2, -⟩ := HPr_33.out.cells
    refine bodyPost_ret (by simp [results, Tryd.results66, go_sem, z0, z1, z2]; try rfl) rfl ?_
    exact ⟨S3, HA_33.out, HF_33.out, F1, cF1, L1, cL1, rfl, HIf1_33.out, HIl1_33.out⟩
  · skip
    have q0 := (blk_cell HN1c.out 0).trans rfl
    obtain ⟨p0, p1, p2, u0, u1, u2⟩ := HPg1_31.out.cells
    go_upto_region 15 with (fail)
    clear q0 p0 p1 p2 u0 u1 u2
    obtain ⟨w7, hw7⟩ : ∃ x, x = w5.setCell ⟨g1, 2, none⟩ (.bool true) := ⟨_, rfl⟩
    rw [← hw7]
    have hbt : Bt g1 w5 w7 := by rw [hw7]; exact Bt.set _ _ _ _
    have HA_34 := Aside0.mk (HA_31.out.far HPg1_31.out hbt)
    have HF_34 := Aside0.mk (HF_31.out.far hbt (by omega))
    have HPr_34 : Aside0 (PartB w7 (sz + 1) none 0 0 none 0 0 false) := ⟨(hbt.keep (sz + 1) (by omega)).trans HPr_31.out⟩
    have HPg1_34 : Aside0 (PartB w7 g1 F1 f1.length cF1 L1 l1.length cL1 true) := ⟨by rw [hw7]; exact blk_set HPg1_31.out 2 _⟩
    have HIf1_34 := Aside0.mk (HIf1_31.out.far HPg1_31.out hbt)
    have HIl1_34 := Aside0.mk (HIl1_31.out.far HPg1_31.out hbt)
    clear hw7 hbt
    clear HA_31 HF_31 HPr_31 HPg1_31 HIf1_31 HIl1_31
    obtain ⟨z0, z1, z2, -⟩ := HPg1_34.out.cells
    obtain ⟨p0, p1, p2, u0, u1, u2⟩ := HPr_34.out.cells
    obtain ⟨wx, hwx⟩ : ∃ x, x = ((w7.setCell ⟨sz + 1, 0, none⟩ (.slice F1 f1.length cF1)).setCell ⟨sz + 1, 1, none⟩ (.slice L1 l1.length cL1)).setCell ⟨sz + 1, 2, none⟩ (.bool true) := ⟨_, rfl⟩
    have hbt : Bt (sz + 1) w7 wx := by rw [hwx]; exact Bt.set3 _ _ _ _ _
    have HW := Aside0.mk hwx.symm
    have HA_35 := Aside0.mk (HA_34.out.far HPr_34.out hbt)
    have HF_35 := Aside0.mk ((HFc.out.trans HF_34.out).far hbt (by omega))
    have HPr_35 : Aside0 (PartB wx (sz + 1) F1 f1.length cF1 L1 l1.length cL1 true) := ⟨by rw [hwx]; exact HPr_34.out.set3⟩
    have HPg1_35 : Aside0 (PartB wx g1 F1 f1.length cF1 L1 l1.length cL1 true) := ⟨(hbt.keep g1 (by omega)).trans HPg1_34.out⟩
    have HIf1_35 := Aside0.mk (HIf1_34.out.far HPr_34.out hbt)
    have HIl1_35 := Aside0.mk (HIl1_34.out.far HPr_34.out hbt)
    clear hwx hbt
    go_wp2_with fail
    rw [HW.out]
    clear z0 z1 z2 p0 p1 p2 u0 u1 u2 HW
    obtain ⟨z0, z1, z2, -⟩ := HPr_35.out.cells
    refine bodyPost_ret (by simp [results, Tryd.results66, go_sem, z0, z1, z2]; try rfl) rfl ?_
    exact ⟨S3, HA_35.out, HF_35.out, F1, cF1, L1, cL1, rfl, HIf1_35.out, HIl1_35.out⟩
set_option maxRecDepth 100000 in
set_option maxHeartbeats 16000000 in
theorem build_maybe (r : Rx) (hr : BuildC r) : BuildC (.maybe r) := by
  intro back w N b al bh S h hN k t A n c B m d hp hb
  obtain ⟨A9, c9, B9, d9, e0, -, -, -, hts, hks⟩ := p_cells (k := 7) hp
  simp only [List.cons.injEq, Value.int.injEq, Value.string.injEq, Value.slice.injEq, true_and, and_true, List.length_nil, List.length_cons, Nat.zero_add, Nat.reduceAdd] at e0
  obtain ⟨rfl, rfl, ⟨rfl, rfl, rfl⟩, rfl, rfl, rfl⟩ := e0
  obtain ⟨wb, hwb, HB, HN, hsb⟩ := boxA w #[.int .i64 7, .string ⟨#[]⟩, .slice A 0 c, .slice B 1 d] 25
  obtain ⟨wc, hwc, HB2, HN2, hsc⟩ := boxA wb #[.slice none 0 0, .slice none 0 0, .bool false] 98
  have HW1 := Aside0.mk hwb.symm
  have HW2 := Aside0.mk hwc.symm
  have HBc := Aside0.mk (HB.out.trans (HB2.out.mono HB.out.size))
  have HAc := Aside0.mk (h.below HBc.out)
  have HFc : Aside0 (Fr S w S wc) := ⟨Fr.of HBc.out⟩
  have HN1 := Aside0.mk (blk_below HN.out HB2.out)
  rw [hsb] at HN2
  have hsS : ∀ g, S g → g < w.heap.size := fun g hg => (h.lt hg).2
  have hwn : w.heap.size ≤ wc.heap.size := HBc.out.size
  have hks2 := HFc.out.kids hks
  obtain ⟨sz, hsz⟩ : ∃ n, w.heap.size = n := ⟨_, rfl⟩
  rw [hsz] at HN1 HN2 hsb hN hsS hwn
  have HNS : Aside0 (∀ g, sz ≤ g → ¬ S g) := ⟨fun g hg hs => by have := hsS g hs; omega⟩
  have hszc : wc.heap.size = sz + 2 := by omega
  have HP6 : Aside0 (PartB wc (sz + 1) none 0 0 none 0 0 false) := ⟨HN2.out⟩
  have hNc : N ≤ wc.heap.size := by omega
  obtain ⟨kb, ko, k0, t0, A0, n0, c0, B0, m0, d0, rfl, hkS, hq0, ⟨a00, a01, a02, a03⟩⟩ := one_cells hks2
  have CX : Aside0 (Calls Tryd.prog 66 #[.pointer (some ⟨b, 0, none⟩), .agg #[.int .i64 k0, .string t0, .slice A0 n0 c0, .slice B0 m0 d0], .bool back] wc (PartP N b (al ++ (r.lay back).lv) ((r.lay back).bf al.length bh) ((r.lay back).fi al.length) ((r.lay back).la al.length) (r.lay back).nl S wc)) := ⟨hr back wc N b al bh S HAc.out hNc k0 t0 A0 n0 c0 B0 m0 d0 hq0 (hb.one (Nat.le_refl _))⟩
  have hbq := hb
  have hxz := r.lay_sz back
  have hlay : (Rx.maybe r).lay back = .maybe (r.lay back) := rfl
  rw [hlay]
  obtain ⟨X, hX⟩ : ∃ e, r.lay back = e := ⟨_, rfl⟩
  rw [hX] at CX hxz ⊢
  have hXs : X.n ≤ 30 := by have h1 := X.n_sz; have h3 := hbq.1; have h4 : (Rx.maybe r).sz = r.sz + 1 := rfl; omega
  obtain ⟨al1, hal1⟩ : ∃ l, al ++ X.lv = l := ⟨_, rfl⟩
  obtain ⟨bh1, hbh1⟩ : ∃ l, X.bf al.length bh = l := ⟨_, rfl⟩
  obtain ⟨f1, hf1⟩ : ∃ l, X.fi al.length = l := ⟨_, rfl⟩
  obtain ⟨l1, hl1⟩ : ∃ l, X.la al.length = l := ⟨_, rfl⟩
  obtain ⟨e1, he1⟩ : ∃ l, X.nl = l := ⟨_, rfl⟩
  have HEND : Aside0 (al ++ (Lx.maybe X).lv = al1 ∧ (Lx.maybe X).bf al.length bh = bh1 ∧ (Lx.maybe X).fi al.length = f1 ∧ (Lx.maybe X).la al.length = l1 ∧ (Lx.maybe X).nl = true) := ⟨by
    refine ⟨?_, ?_, ?_, ?_, ?_⟩
    · rw [← hal1]; rfl
    · rw [← hbh1]; rfl
    · rw [← hf1]; rfl
    · rw [← hl1]; rfl
    · rfl⟩
  have hlf1 : 0 < f1.length ∧ f1.length ≤ 30 := by rw [← hf1]; have := X.fi_len al.length; omega
  have hll1 : 0 < l1.length ∧ l1.length ≤ 30 := by rw [← hl1]; have := X.la_len al.length; omega
  have hb1l : bh1.length = al.length + 1 + X.n := by rw [← hbh1, Lx.bf_length, hbq.2.2.1]
  have hb1r : ∀ i, (bh1.getD i []).length ≤ 60000 := fun i => by
    have h1 := X.bf_len i al.length bh (by have := hbq.1; have h4 : (Rx.maybe r).sz = r.sz + 1 := rfl; omega)
    have h3 := hbq.2.2.2 i
    have h4 : (Rx.maybe r).sz = r.sz + 1 := rfl
    rw [hbh1] at h1
    omega
  have hlb : ∀ n ∈ l1, n < bh1.length := fun n hn => by
    rw [← hl1] at hn
    have := X.la_in al.length n hn
    unfold In at this
    omega
  have hb1m : bh1.length ≤ 1001 := by have := hbq.2.1; have := hbq.1; omega
  have CJ : Aside0 (∀ W S2 L1 cL1 F1 cF1, Aut W N b al1 bh1 S2 → N ≤ W.heap.size → IntsAt W (fun g => ¬ S2 g) L1 l1 → IntsAt W (fun g => ¬ S2 g) F1 f1 → Calls Tryd.prog 98 #[.pointer (some ⟨b, 0, none⟩), .slice L1 l1.length cL1, .slice F1 f1.length cF1] W (JoinP N b al1 (addTo bh1 l1 f1) S2 W)) := ⟨fun W S2 L1 cL1 F1 cF1 hA hN h1 h2 => joins_any W N b al1 bh1 S2 hA L1 l1 cL1 F1 f1 cF1 h1 h2 hlf1.1 hlb hll1.2 hlf1.2 hb1r hb1m⟩
  rw [hal1, hbh1, hf1, hl1, he1] at CX
  rw [HEND.out.1, HEND.out.2.1, HEND.out.2.2.1, HEND.out.2.2.2.1, HEND.out.2.2.2.2]
  have HFz : Aside0 (Fr S wc S wc) := ⟨Fr.refl _ _⟩
  clear hX hal1 hbh1 hf1 hl1 he1 hr hb hbq hxz hXs HEND hlf1 hll1 hb1l hb1r hlb hb1m hlay
  clear hp hks hks2 hwb hwc HB HN HB2 HN2 hsb hsc h hsS HBc hts
  go_enter Tryd.func66, Tryd.ntmps66
  go_upto_region 1 with (fail)
  rw [HW1.out, HW2.out]
  clear HW1 HW2
  have q0 := (blk_cell HN1.out 0).trans rfl
  have q1 := (blk_cell HN1.out 1).trans rfl
  have q2 := (blk_cell HN1.out 2).trans rfl
  have q3 := (blk_cell HN1.out 3).trans rfl
  go_upto_region 12 with (go_at_call 66; (with_reducible refine CX.out.mono ?_); rintro e w1 ⟨S1, hA, hF, F1, cF1, L1, cL1, rfl, hf, hl⟩; have HAq1 := Aside0.mk hA; have HFq1 := Aside0.mk hF; have HIf1 := Aside0.mk hf; have HIl1 := Aside0.mk hl; clear hA hF hf hl; obtain ⟨w2, hw2, HBa, HNa, hsa⟩ := boxA w1 #[.slice F1 f1.length cF1, .slice L1 l1.length cL1, .bool e1] 98; have HPa : Aside0 (PartB w2 w1.heap.size F1 f1.length cF1 L1 l1.length cL1 e1) := ⟨HNa.out⟩; have HWa := Aside0.mk hw2.symm; clear hw2 hsa HNa)
  rw [HWa.out]
  clear HWa q0 q1 q2 q3 a00 a01 a02 a03
  have HA_36 := Aside0.mk HAq1.out
  have HF_36 := Aside0.mk (HFz.out.trans HFq1.out)
  have HPr_36 : Aside0 (PartB w1 (sz + 1) none 0 0 none 0 0 false) := ⟨HFq1.out.blk HP6.out (HAc.out.not_part HP6.out)⟩
  have HN1a := Aside0.mk (HFq1.out.blk HN1.out (HNS.out sz (Nat.le_refl _)))
  have HN1b := Aside0.mk (blk_below HN1a.out HBa.out)
  have HA_37 := Aside0.mk (HA_36.out.below HBa.out)
  have HF_37 := Aside0.mk (HF_36.out.trans (Fr.of HBa.out))
  have HPr_37 := Aside0.mk (HPr_36.out.below HBa.out)
  have HIf1_37 := Aside0.mk (HIf1.out.below HBa.out)
  have HIl1_37 := Aside0.mk (HIl1.out.below HBa.out)
  have hge1 : sz + 2 ≤ w1.heap.size := by have := HF_36.out.size; omega
  obtain ⟨g1, hg1⟩ : ∃ g, w1.heap.size = g := ⟨_, rfl⟩
  rw [hg1] at HPa hge1 ⊢
  clear HBa HAq1 HFq1 hg1 HIf1 HIl1 HA_36 HF_36 HPr_36
  have q0 := (blk_cell HN1b.out 0).trans rfl
  obtain ⟨p0, p1, p2, -⟩ := HPa.out.cells
  go_upto_region 14 with (fail)
  clear q0 p0 p1 p2
  cases e1
  · skip
    have q0 := (blk_cell HN1b.out 0).trans rfl
    obtain ⟨p0, p1, p2, u0, u1, u2⟩ := HPa.out.cells
    go_upto_region 15 with (fail)
    clear q0 p0 p1 p2 u0 u1 u2
    obtain ⟨w7, hw7⟩ : ∃ x, x = w2.setCell ⟨g1, 2, none⟩ (.bool true) := ⟨_, rfl⟩
    rw [← hw7]
    have hbt : Bt g1 w2 w7 := by rw [hw7]; exact Bt.set _ _ _ _
    have HA_38 := Aside0.mk (HA_37.out.far HPa.out hbt)
    have HF_38 := Aside0.mk (HF_37.out.far hbt (by omega))
    have HPr_38 : Aside0 (PartB w7 (sz + 1) none 0 0 none 0 0 false) := ⟨(hbt.keep (sz + 1) (by omega)).trans HPr_37.out⟩
    have HPg1_38 : Aside0 (PartB w7 g1 F1 f1.length cF1 L1 l1.length cL1 true) := ⟨by rw [hw7]; exact blk_set HPa.out 2 _⟩
    have HIf1_38 := Aside0.mk (HIf1_37.out.far HPa.out hbt)
    have HIl1_38 := Aside0.mk (HIl1_37.out.far HPa.out hbt)
    clear hw7 hbt
    clear HA_37 HF_37 HPr_37 HPa HIf1_37 HIl1_37
    obtain ⟨z0, z1, z2, -⟩ := HPg1_38.out.cells
    obtain ⟨p0, p1, p2, u0, u1, u2⟩ := HPr_38.out.cells
    obtain ⟨wx, hwx⟩ : ∃ x, x = ((w7.setCell ⟨sz + 1, 0, none⟩ (.slice F1 f1.length cF1)).setCell ⟨sz + 1, 1, none⟩ (.slice L1 l1.length cL1)).setCell ⟨sz + 1, 2, none⟩ (.bool true) := ⟨_, rfl⟩
    have hbt : Bt (sz + 1) w7 wx := by rw [hwx]; exact Bt.set3 _ _ _ _ _
    have HW := Aside0.mk hwx.symm
    have HA_39 := Aside0.mk (HA_38.out.far HPr_38.out hbt)
    have HF_39 := Aside0.mk ((HFc.out.trans HF_38.out).far hbt (by omega))
    have HPr_39 : Aside0 (PartB wx (sz + 1) F1 f1.length cF1 L1 l1.length cL1 true) := ⟨by rw [hwx]; exact HPr_38.out.set3⟩
    have HPg1_39 : Aside0 (PartB wx g1 F1 f1.length cF1 L1 l1.length cL1 true) := ⟨(hbt.keep g1 (by omega)).trans HPg1_38.out⟩
    have HIf1_39 := Aside0.mk (HIf1_38.out.far HPr_38.out hbt)
    have HIl1_39 := Aside0.mk (HIl1_38.out.far HPr_38.out hbt)
    clear hwx hbt
    go_wp2_with fail
    rw [HW.out]
    clear z0 z1 z2 p0 p1 p2 u0 u1 u2 HW
    obtain ⟨z0, z1, z2, -⟩ := HPr_39.out.cells
    refine bodyPost_ret (by simp [results, Tryd.results66, go_sem, z0, z1, z2]; try rfl) rfl ?_
    exact ⟨S1, HA_39.out, HF_39.out, F1, cF1, L1, cL1, rfl, HIf1_39.out, HIl1_39.out⟩
  · skip
    have q0 := (blk_cell HN1b.out 0).trans rfl
    obtain ⟨p0, p1, p2, u0, u1, u2⟩ := HPa.out.cells
    go_upto_region 15 with (fail)
    clear q0 p0 p1 p2 u0 u1 u2
    obtain ⟨w7, hw7⟩ : ∃ x, x = w2.setCell ⟨g1, 2, none⟩ (.bool true) := ⟨_, rfl⟩
    rw [← hw7]
    have hbt : Bt g1 w2 w7 := by rw [hw7]; exact Bt.set _ _ _ _
    have HA_40 := Aside0.mk (HA_37.out.far HPa.out hbt)
    have HF_40 := Aside0.mk (HF_37.out.far hbt (by omega))
    have HPr_40 : Aside0 (PartB w7 (sz + 1) none 0 0 none 0 0 false) := ⟨(hbt.keep (sz + 1) (by omega)).trans HPr_37.out⟩
    have HPg1_40 : Aside0 (PartB w7 g1 F1 f1.length cF1 L1 l1.length cL1 true) := ⟨by rw [hw7]; exact blk_set HPa.out 2 _⟩
    have HIf1_40 := Aside0.mk (HIf1_37.out.far HPa.out hbt)
    have HIl1_40 := Aside0.mk (HIl1_37.out.far HPa.out hbt)
    clear hw7 hbt
    clear HA_37 HF_37 HPr_37 HPa HIf1_37 HIl1_37
    obtain ⟨z0, z1, z2, -⟩ := HPg1_40.out.cells
    obtain ⟨p0, p1, p2, u0, u1, u2⟩ := HPr_40.out.cells
    obtain ⟨wx, hwx⟩ : ∃ x, x = ((w7.setCell ⟨sz + 1, 0, none⟩ (.slice F1 f1.length cF1)).setCell ⟨sz + 1, 1, none⟩ (.slice L1 l1.length cL1)).setCell ⟨sz + 1, 2, none⟩ (.bool true) := ⟨_, rfl⟩
    have hbt : Bt (sz + 1) w7 wx := by rw [hwx]; exact Bt.set3 _ _ _ _ _
    have HW := Aside0.mk hwx.symm
    have HA_41 := Aside0.mk (HA_40.out.far HPr_40.out hbt)
    have HF_41 := Aside0.mk ((HFc.out.trans HF_40.out).far hbt (by omega))
    have HPr_41 : Aside0 (PartB wx (sz + 1) F1 f1.length cF1 L1 l1.length cL1 true) := ⟨by rw [hwx]; exact HPr_40.out.set3⟩
    have HPg1_41 : Aside0 (PartB wx g1 F1 f1.length cF1 L1 l1.length cL1 true) := ⟨(hbt.keep g1 (by omega)).trans HPg1_40.out⟩
    have HIf1_41 := Aside0.mk (HIf1_40.out.far HPr_40.out hbt)
    have HIl1_41 := Aside0.mk (HIl1_40.out.far HPr_40.out hbt)
    clear hwx hbt
    go_wp2_with fail
    rw [HW.out]
    clear z0 z1 z2 p0 p1 p2 u0 u1 u2 HW
    obtain ⟨z0, z1, z2, -⟩ := HPr_41.out.cells
    refine bodyPost_ret (by simp [results, Tryd.results66, go_sem, z0, z1, z2]; try rfl) rfl ?_
    exact ⟨S1, HA_41.out, HF_41.out, F1, cF1, L1, cL1, rfl, HIf1_41.out, HIl1_41.out⟩
/-- build, at a path that may be. -/
theorem build_any : ∀ r : Rx, r.fine → BuildC r
  | .iri t, _ => build_iri t
  | .neg ts, h => build_neg ts (by have := h.1; omega) (by have := h.2.1; omega)
  | .back r, h => build_back r (build_any r h)
  | .seq r s, h => build_seq r s (build_any r h.1) (build_any s h.2)
  | .alt r s, h => build_alt r s (build_any r h.1) (build_any s h.2)
  | .star r, h => build_star r (build_any r h)
  | .plus r, h => build_plus r (build_any r h)
  | .maybe r, h => build_maybe r (build_any r h)
end Go.Proofs.YtbaegfjoionojaaDoor.Qa
