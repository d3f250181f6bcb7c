/- The walk of big: is a path more than is looked at? -/
import Derived.Test.YtbaegfjoionojaaDoorQyI
set_option linter.unusedSimpArgs false
set_option linter.unusedVariables false
namespace Go.Proofs.YtbaegfjoionojaaDoor.Qy
open Go Go.RowKit Go.Proofs.YtbaegfjoionojaaDoor.Tm Go.Proofs.YtbaegfjoionojaaDoorW.PrintWords

theorem bigL_no {l : List Pth} {d : Nat} (h : ∀ (j : Nat) (q : Pth), l[j]? = some q → bigP q d = false) : bigL l d = false := by
  induction l with
  | nil => rfl
  | cons p l ih =>
    show (bigP p d || bigL l d) = false
    rw [h 0 p rfl, ih (fun j q hq => h (j + 1) q hq)]
    rfl
theorem bigL_yes {l : List Pth} {d j : Nat} {q : Pth} (hq : l[j]? = some q) (h : bigP q d = true) : bigL l d = true := by
  induction l generalizing j with
  | nil => cases hq
  | cons p l ih =>
    show (bigP p d || bigL l d) = true
    cases j with
    | zero =>
      obtain rfl : p = q := by simpa using hq
      rw [h]; rfl
    | succ j => rw [ih (j := j) (by simpa using hq)]; simp
/-- What is known of a path that is not big. -/
theorem big_facts {k : Int} {t : ByteArray} {ts : List ByteArray} {ks : List Pth} {d : Nat} (h : bigP (.mk k t ts ks) d = false) : d ≤ 12 ∧ ks.length ≤ 4 ∧ ts.length ≤ 20 ∧ t.size ≤ 300 ∧ (∀ x ∈ ts, x.size ≤ 300) ∧ (∀ q ∈ ks, bigP q (d + 1) = false) := by
  unfold bigP at h
  simp only [Bool.or_eq_false_iff, decide_eq_false_iff_not, Nat.not_lt, List.any_eq_false, decide_eq_true_eq] at h
  obtain ⟨⟨⟨⟨⟨h1, h2⟩, h3⟩, h4⟩, h5⟩, h6⟩ := h
  refine ⟨h1, h2, h3, h4, fun x hx => by have := h5 x hx; omega, fun q hq => ?_⟩
  obtain ⟨j, hj, e⟩ := List.getElem_of_mem hq
  cases hb : bigP q (d + 1) with
  | false => rfl
  | true => rw [bigL_yes (j := j) (by rw [List.getElem?_eq_getElem hj, e]) hb] at h6; cases h6
def BigC (p : Pth) : Prop := ∀ (d : Nat), d ≤ 100 → ∀ (w : World) (ok : Nat → Prop) (k : Int) (t : ByteArray) (A : Option Addr) (n c : Nat) (B : Option Addr) (m e : Nat), PathAt w ok p [.int .i64 k, .string t, .slice A n c, .slice B m e] →
  Calls Tryd.prog 23 #[.agg #[.int .i64 k, .string t, .slice A n c, .slice B m e], .int .i64 (d : Int)] w fun e w' => e = .returned (.bool (bigP p d)) ∧ Below w.heap.size w w'
set_option maxRecDepth 100000 in
set_option maxHeartbeats 8000000 in
theorem big_0 (k0 : Int) (t0 : ByteArray) (ts : List ByteArray) (ks : List Pth) (d : Nat) (hd100 : d ≤ 100)  (h0 : 12 < d) (w : World) (ok : Nat → Prop) (k : Int) (t : ByteArray) (A : Option Addr) (n c : Nat) (B : Option Addr) (m e : Nat)
    (hp : PathAt w ok (.mk k0 t0 ts ks) [.int .i64 k, .string t, .slice A n c, .slice B m e]) :
    Calls Tryd.prog 23 #[.agg #[.int .i64 k, .string t, .slice A n c, .slice B m e], .int .i64 (d : Int)] w fun e w' => e = .returned (.bool (bigP (.mk k0 t0 ts ks) d)) ∧ Below w.heap.size w w' := by
  obtain ⟨A1, c1, B1, d1, e0, -, -, hkl, hts, hks⟩ := path_cells hp
  simp only [List.cons.injEq, Value.int.injEq, Value.string.injEq, Value.slice.injEq, true_and, and_true] at e0
  obtain ⟨rfl, rfl, ⟨rfl, rfl, rfl⟩, rfl, rfl, rfl⟩ := e0
  obtain ⟨wb, hwb, HB, HN⟩ := boxP w k t A ts.length c B ks.length e
  have HHW : Aside0 (w.alloc (.cells #[.int .i64 k, .string t, .slice A ts.length c, .slice B ks.length e] 25) = wb) := ⟨hwb.symm⟩
  have HTS : Aside0 (TsAt wb ok A ts) := ⟨hts.move (fun g _ hg => HB.out.block g hg)⟩
  have HKS := Aside0.mk (KidsAt.move (w := w) (w1 := wb) (fun g _ hg => HB.out.block g hg) ks hks)
  clear hwb hp hts hks
  have HE : Aside0 (bigP (.mk k t ts ks) d = true) := ⟨by
    unfold bigP
    simp [h0]⟩
  have n0 : decide ((12 : Int) < (d : Int)) = true := by rw [decide_eq_true_eq]; omega
  clear h0
  go_enter Tryd.func23, Tryd.ntmps23
  go_upto_region 1 with (fail)
  rw [HHW.out]
  have q0 := blk_cell HN.out 0; have q1 := blk_cell HN.out 1; have q2 := blk_cell HN.out 2; have q3 := blk_cell HN.out 3; simp at q0 q1 q2 q3
  go_wp2_with fail
  go_ret
  exact ⟨ret_b HE.out.symm, HB.out⟩
set_option maxRecDepth 100000 in
set_option maxHeartbeats 8000000 in
theorem big_1 (k0 : Int) (t0 : ByteArray) (ts : List ByteArray) (ks : List Pth) (d : Nat) (hd100 : d ≤ 100) (h0 : ¬ 12 < d) (h1 : 4 < ks.length) (w : World) (ok : Nat → Prop) (k : Int) (t : ByteArray) (A : Option Addr) (n c : Nat) (B : Option Addr) (m e : Nat)
    (hp : PathAt w ok (.mk k0 t0 ts ks) [.int .i64 k, .string t, .slice A n c, .slice B m e]) :
    Calls Tryd.prog 23 #[.agg #[.int .i64 k, .string t, .slice A n c, .slice B m e], .int .i64 (d : Int)] w fun e w' => e = .returned (.bool (bigP (.mk k0 t0 ts ks) d)) ∧ Below w.heap.size w w' := by
  obtain ⟨A1, c1, B1, d1, e0, -, -, hkl, hts, hks⟩ := path_cells hp
  simp only [List.cons.injEq, Value.int.injEq, Value.string.injEq, Value.slice.injEq, true_and, and_true] at e0
  obtain ⟨rfl, rfl, ⟨rfl, rfl, rfl⟩, rfl, rfl, rfl⟩ := e0
  obtain ⟨wb, hwb, HB, HN⟩ := boxP w k t A ts.length c B ks.length e
  have HHW : Aside0 (w.alloc (.cells #[.int .i64 k, .string t, .slice A ts.length c, .slice B ks.length e] 25) = wb) := ⟨hwb.symm⟩
  have HTS : Aside0 (TsAt wb ok A ts) := ⟨hts.move (fun g _ hg => HB.out.block g hg)⟩
  have HKS := Aside0.mk (KidsAt.move (w := w) (w1 := wb) (fun g _ hg => HB.out.block g hg) ks hks)
  clear hwb hp hts hks
  have HE : Aside0 (bigP (.mk k t ts ks) d = true) := ⟨by
    unfold bigP
    simp [h1]⟩
  have n0 : decide ((12 : Int) < (d : Int)) = false := by rw [decide_eq_false_iff_not]; omega
  have n1 : decide ((4 : Int) < (ks.length : Int)) = true := by rw [decide_eq_true_eq]; omega
  clear h0 h1
  go_enter Tryd.func23, Tryd.ntmps23
  go_upto_region 1 with (fail)
  rw [HHW.out]
  have q0 := blk_cell HN.out 0; have q1 := blk_cell HN.out 1; have q2 := blk_cell HN.out 2; have q3 := blk_cell HN.out 3; simp at q0 q1 q2 q3
  go_wp2_with fail
  go_ret
  exact ⟨ret_b HE.out.symm, HB.out⟩
set_option maxRecDepth 100000 in
set_option maxHeartbeats 8000000 in
theorem big_2 (k0 : Int) (t0 : ByteArray) (ts : List ByteArray) (ks : List Pth) (d : Nat) (hd100 : d ≤ 100) (h0 : ¬ 12 < d) (h1 : ¬ 4 < ks.length) (h2 : 20 < ts.length) (w : World) (ok : Nat → Prop) (k : Int) (t : ByteArray) (A : Option Addr) (n c : Nat) (B : Option Addr) (m e : Nat)
    (hp : PathAt w ok (.mk k0 t0 ts ks) [.int .i64 k, .string t, .slice A n c, .slice B m e]) :
    Calls Tryd.prog 23 #[.agg #[.int .i64 k, .string t, .slice A n c, .slice B m e], .int .i64 (d : Int)] w fun e w' => e = .returned (.bool (bigP (.mk k0 t0 ts ks) d)) ∧ Below w.heap.size w w' := by
  obtain ⟨A1, c1, B1, d1, e0, -, -, hkl, hts, hks⟩ := path_cells hp
  simp only [List.cons.injEq, Value.int.injEq, Value.string.injEq, Value.slice.injEq, true_and, and_true] at e0
  obtain ⟨rfl, rfl, ⟨rfl, rfl, rfl⟩, rfl, rfl, rfl⟩ := e0
  obtain ⟨wb, hwb, HB, HN⟩ := boxP w k t A ts.length c B ks.length e
  have HHW : Aside0 (w.alloc (.cells #[.int .i64 k, .string t, .slice A ts.length c, .slice B ks.length e] 25) = wb) := ⟨hwb.symm⟩
  have HTS : Aside0 (TsAt wb ok A ts) := ⟨hts.move (fun g _ hg => HB.out.block g hg)⟩
  have HKS := Aside0.mk (KidsAt.move (w := w) (w1 := wb) (fun g _ hg => HB.out.block g hg) ks hks)
  clear hwb hp hts hks
  have HE : Aside0 (bigP (.mk k t ts ks) d = true) := ⟨by
    unfold bigP
    simp [h2]⟩
  have n0 : decide ((12 : Int) < (d : Int)) = false := by rw [decide_eq_false_iff_not]; omega
  have n1 : decide ((4 : Int) < (ks.length : Int)) = false := by rw [decide_eq_false_iff_not]; omega
  have n2 : decide ((20 : Int) < (ts.length : Int)) = true := by rw [decide_eq_true_eq]; omega
  clear h0 h1 h2
  go_enter Tryd.func23, Tryd.ntmps23
  go_upto_region 1 with (fail)
  rw [HHW.out]
  have q0 := blk_cell HN.out 0; have q1 := blk_cell HN.out 1; have q2 := blk_cell HN.out 2; have q3 := blk_cell HN.out 3; simp at q0 q1 q2 q3
  go_wp2_with fail
  go_ret
  exact ⟨ret_b HE.out.symm, HB.out⟩
set_option maxRecDepth 100000 in
set_option maxHeartbeats 8000000 in
theorem big_3 (k0 : Int) (t0 : ByteArray) (ts : List ByteArray) (ks : List Pth) (d : Nat) (hd100 : d ≤ 100) (h0 : ¬ 12 < d) (h1 : ¬ 4 < ks.length) (h2 : ¬ 20 < ts.length) (h3 : 300 < t0.size) (w : World) (ok : Nat → Prop) (k : Int) (t : ByteArray) (A : Option Addr) (n c : Nat) (B : Option Addr) (m e : Nat)
    (hp : PathAt w ok (.mk k0 t0 ts ks) [.int .i64 k, .string t, .slice A n c, .slice B m e]) :
    Calls Tryd.prog 23 #[.agg #[.int .i64 k, .string t, .slice A n c, .slice B m e], .int .i64 (d : Int)] w fun e w' => e = .returned (.bool (bigP (.mk k0 t0 ts ks) d)) ∧ Below w.heap.size w w' := by
  obtain ⟨A1, c1, B1, d1, e0, -, -, hkl, hts, hks⟩ := path_cells hp
  simp only [List.cons.injEq, Value.int.injEq, Value.string.injEq, Value.slice.injEq, true_and, and_true] at e0
  obtain ⟨rfl, rfl, ⟨rfl, rfl, rfl⟩, rfl, rfl, rfl⟩ := e0
  obtain ⟨wb, hwb, HB, HN⟩ := boxP w k t A ts.length c B ks.length e
  have HHW : Aside0 (w.alloc (.cells #[.int .i64 k, .string t, .slice A ts.length c, .slice B ks.length e] 25) = wb) := ⟨hwb.symm⟩
  have HTS : Aside0 (TsAt wb ok A ts) := ⟨hts.move (fun g _ hg => HB.out.block g hg)⟩
  have HKS := Aside0.mk (KidsAt.move (w := w) (w1 := wb) (fun g _ hg => HB.out.block g hg) ks hks)
  clear hwb hp hts hks
  have HE : Aside0 (bigP (.mk k t ts ks) d = true) := ⟨by
    unfold bigP
    simp [h3]⟩
  have n0 : decide ((12 : Int) < (d : Int)) = false := by rw [decide_eq_false_iff_not]; omega
  have n1 : decide ((4 : Int) < (ks.length : Int)) = false := by rw [decide_eq_false_iff_not]; omega
  have n2 : decide ((20 : Int) < (ts.length : Int)) = false := by rw [decide_eq_false_iff_not]; omega
  have n3 : decide ((300 : Int) < (t.size : Int)) = true := by rw [decide_eq_true_eq]; omega
  clear h0 h1 h2 h3
  go_enter Tryd.func23, Tryd.ntmps23
  go_upto_region 1 with (fail)
  rw [HHW.out]
  have q0 := blk_cell HN.out 0; have q1 := blk_cell HN.out 1; have q2 := blk_cell HN.out 2; have q3 := blk_cell HN.out 3; simp at q0 q1 q2 q3
  go_wp2_with fail
  go_ret
  exact ⟨ret_b HE.out.symm, HB.out⟩
set_option maxRecDepth 100000 in
set_option maxHeartbeats 8000000 in
theorem big_go (k0 : Int) (t0 : ByteArray) (ts : List ByteArray) (ks : List Pth) (d : Nat) (hd100 : d ≤ 100) (h0 : ¬ 12 < d) (h1 : ¬ 4 < ks.length) (h2 : ¬ 20 < ts.length) (h3 : ¬ 300 < t0.size) (ih : ∀ q ∈ ks, BigC q) (w : World) (ok : Nat → Prop) (k : Int) (t : ByteArray) (A : Option Addr) (n c : Nat) (B : Option Addr) (m e : Nat)
    (hp : PathAt w ok (.mk k0 t0 ts ks) [.int .i64 k, .string t, .slice A n c, .slice B m e]) :
    Calls Tryd.prog 23 #[.agg #[.int .i64 k, .string t, .slice A n c, .slice B m e], .int .i64 (d : Int)] w fun e w' => e = .returned (.bool (bigP (.mk k0 t0 ts ks) d)) ∧ Below w.heap.size w w' := by
  obtain ⟨A1, c1, B1, d1, e0, -, -, hkl, hts, hks⟩ := path_cells hp
  simp only [List.cons.injEq, Value.int.injEq, Value.string.injEq, Value.slice.injEq, true_and, and_true] at e0
  obtain ⟨rfl, rfl, ⟨rfl, rfl, rfl⟩, rfl, rfl, rfl⟩ := e0
  obtain ⟨wb, hwb, HB, HN⟩ := boxP w k t A ts.length c B ks.length e
  have HHW : Aside0 (w.alloc (.cells #[.int .i64 k, .string t, .slice A ts.length c, .slice B ks.length e] 25) = wb) := ⟨hwb.symm⟩
  have HTS : Aside0 (TsAt wb ok A ts) := ⟨hts.move (fun g _ hg => HB.out.block g hg)⟩
  have HKS := Aside0.mk (KidsAt.move (w := w) (w1 := wb) (fun g _ hg => HB.out.block g hg) ks hks)
  clear hwb hp hts hks
  have n0 : decide ((12 : Int) < (d : Int)) = false := by rw [decide_eq_false_iff_not]; omega
  have n1 : decide ((4 : Int) < (ks.length : Int)) = false := by rw [decide_eq_false_iff_not]; omega
  have n2 : decide ((20 : Int) < (ts.length : Int)) = false := by rw [decide_eq_false_iff_not]; omega
  have n3 : decide ((300 : Int) < (t.size : Int)) = false := by rw [decide_eq_false_iff_not]; omega
  have HE : Aside0 (bigP (.mk k t ts ks) d = (ts.any (fun x => decide (300 < x.size)) || bigL ks (d + 1))) := ⟨by
    unfold bigP
    simp [h0, h1, h2, h3]⟩
  have HIH := Aside0.mk ih
  have hd12 : d ≤ 12 := by omega
  have htm : ts.length ≤ 20 := by omega
  have htk : ks.length ≤ 4 := by omega
  clear h0 h1 h2 h3 ih
  go_enter Tryd.func23, Tryd.ntmps23
  go_upto_region 1 with (fail)
  rw [HHW.out]
  have q0 := blk_cell HN.out 0; have q1 := blk_cell HN.out 1; have q2 := blk_cell HN.out 2; have q3 := blk_cell HN.out 3; simp at q0 q1 q2 q3
  go_wp2_with fail
  go_loopw [5] (fun x wr => ∃ i : Nat, i ≤ ts.length ∧ x = .int .i64 i ∧ Aside0 (wr = wb) ∧ Aside0 (∀ j x, j < i → ts[j]? = some x → x.size ≤ 300)) (fun x _ => ts.length - (intOf x).toNat)
  case atStart => exact ⟨0, by omega, rfl, ⟨by first | trivial | rfl⟩, ⟨fun j x h => by omega⟩⟩
  case round =>
    obtain ⟨i, hi, rfl, hw, HA1⟩ := hrel
    obtain rfl := hw.out.symm
    by_cases hin : i < ts.length
    · obtain ⟨x, hx⟩ : ∃ x, ts[i]? = some x := ⟨ts[i]'hin, List.getElem?_eq_getElem _⟩
      obtain ⟨tb, tf, hA, -, htc⟩ := HTS.out.2 (by omega)
      have hc1 := htc i x hx
      subst hA
      have g0 : (0 : Int) ≤ (i : Int) := by omega
      have g1 : (i : Int) < (ts.length : Int) := by omega
      have HX : Aside0 (ts[i]? = some x) := ⟨hx⟩
      clear htc hx
      by_cases hxy : 300 < x.size
      · have g2 : decide ((300 : Int) < (x.size : Int)) = true := by rw [decide_eq_true_eq]; omega
        have HT : Aside0 (bigP (.mk k t ts ks) d = true) := ⟨by
          rw [HE.out, show ts.any (fun x => decide (300 < x.size)) = true from List.any_eq_true.2 ⟨x, List.mem_of_getElem? HX.out, by simpa using hxy⟩]; rfl⟩
        clear hxy
        go_wp2_with fail
        go_ret
        exact ⟨ret_b HT.out.symm, HB.out⟩
      · have g2 : decide ((300 : Int) < (x.size : Int)) = false := by rw [decide_eq_false_iff_not]; omega
        have HA2 : Aside0 (∀ j x, j < i + 1 → ts[j]? = some x → x.size ≤ 300) := ⟨fun j y hj hy => by
          by_cases h : j = i
          · subst h
            obtain rfl : x = y := Option.some.inj (HX.out.symm.trans hy)
            omega
          · exact HA1.out j y (by omega) hy⟩
        clear hxy
        go_wp2_with fail
        go_roundw
        case rel => exact ⟨i + 1, by omega, by go_num, ⟨by first | trivial | rfl⟩, HA2⟩
        case measure => simp [intOf]; omega
    · have HTT : Aside0 (bigP (.mk k t ts ks) d = bigL ks (d + 1)) := ⟨by
        rw [HE.out, show ts.any (fun x => decide (300 < x.size)) = false from List.any_eq_false.2 (fun x hx => by
          obtain ⟨j, hj, e⟩ := List.getElem_of_mem hx
          have := HA1.out j x (by omega) (by rw [List.getElem?_eq_getElem hj, e])
          simpa using this)]; rfl⟩
      go_wp2_with fail
      clear q0 q1 q2 q3
      go_loopw [6] (fun x wr => ∃ i : Nat, i ≤ ks.length ∧ x = .int .i64 i ∧ Aside0 (Below wb.heap.size wb wr) ∧ Aside0 (∀ j q, j < i → ks[j]? = some q → bigP q (d + 1) = false)) (fun x _ => ks.length - (intOf x).toNat)
      case atStart => exact ⟨0, by omega, rfl, ⟨Below.refl _ _⟩, ⟨fun j q h => by omega⟩⟩
      case round =>
        obtain ⟨wu, rfl⟩ : ∃ x, x = wr := ⟨wr, rfl⟩
        obtain ⟨i, hi, rfl, HBu, HA2⟩ := hrel
        have HNv := Aside0.mk (blk_below HN.out HBu.out)
        have q0 := blk_cell HNv.out 0; have q1 := blk_cell HNv.out 1; have q2 := blk_cell HNv.out 2; have q3 := blk_cell HNv.out 3; simp at q0 q1 q2 q3
        by_cases hin : i < ks.length
        · obtain ⟨x, hx⟩ : ∃ x, ks[i]? = some x := ⟨ks[i]'hin, List.getElem?_eq_getElem _⟩
          obtain ⟨kb, ko, cs1, hB, -, hc1, hp1⟩ := KidsAt.get _ (KidsAt.move (w := wb) (w1 := wu) (fun g _ hg => HBu.out.block g hg) ks HKS.out) i x hx
          have CI := HIH.out x (List.mem_of_getElem? hx) (d + 1) (by omega)
          have HX : Aside0 (ks[i]? = some x) := ⟨hx⟩
          obtain ⟨b, hb⟩ : ∃ b, bigP x (d + 1) = b := ⟨_, rfl⟩
          rw [hb] at CI
          have HBB := Aside0.mk hb
          obtain ⟨k', t', ts', ks'⟩ := x
          obtain ⟨A', c', B', d', rfl, -⟩ := path_cells hp1
          subst hB
          have a0 := hc1 0 _ rfl
          have a1 := hc1 1 _ rfl
          have a2 := hc1 2 _ rfl
          have a3 := hc1 3 _ rfl
          simp at a0 a1 a2 a3
          have CC : Aside0 (Calls Tryd.prog 23 #[.agg #[.int .i64 k', .string t', .slice A' ts'.length c', .slice B' ks'.length d'], .int .i64 ((d : Int) + 1)] wu fun e w' => e = .returned (.bool b) ∧ Below wu.heap.size wu w') := ⟨by
            have := CI wu ok _ _ _ _ _ _ _ _ hp1
            rwa [show (((d + 1 : Nat)) : Int) = (d : Int) + 1 by omega] at this⟩
          have g0 : (0 : Int) ≤ (i : Int) := by omega
          have g1 : (i : Int) < (ks.length : Int) := by omega
          clear hx hc1 hp1 CI hb
          cases b with
          | true =>
            have HT : Aside0 (bigP (.mk k t ts ks) d = true) := ⟨by rw [HTT.out]; exact bigL_yes HX.out HBB.out⟩
            go_wp2_with (go_at_call 23; (with_reducible refine CC.out.mono ?_); rintro e w5 ⟨rfl, hb5⟩; have HB5 := Aside0.mk (below_then HBu.out HBu.out.size hb5); clear hb5)
            go_ret
            exact ⟨ret_b HT.out.symm, HB.out.trans (HB5.out.mono HB.out.size)⟩
          | false =>
            have HA3 : Aside0 (∀ j q, j < i + 1 → ks[j]? = some q → bigP q (d + 1) = false) := ⟨fun j q hj hq => by
              by_cases h : j = i
              · subst h
                obtain rfl := Option.some.inj (HX.out.symm.trans hq)
                exact HBB.out
              · exact HA2.out j q (by omega) hq⟩
            go_wp2_with (go_at_call 23; (with_reducible refine CC.out.mono ?_); rintro e w5 ⟨rfl, hb5⟩; have HB5 := Aside0.mk (below_then HBu.out HBu.out.size hb5); clear hb5)
            go_roundw
            case rel => exact ⟨i + 1, by omega, by go_num, HB5, HA3⟩
            case measure => simp [intOf]; omega
        · have HT : Aside0 (bigP (.mk k t ts ks) d = false) := ⟨by rw [HTT.out]; exact bigL_no (fun j q hq => HA2.out j q (by have := (List.getElem?_eq_some_iff.1 hq).1; omega) hq)⟩
          go_wp2_with fail
          go_ret
          exact ⟨ret_b HT.out.symm, HB.out.trans (HBu.out.mono HB.out.size)⟩
theorem big_any : ∀ p, BigC p := by
  intro p
  induction p using Pth.ind with
  | h k0 t0 ts ks ih =>
  intro d hd w ok k t A n c B m e hp
  by_cases h0 : 12 < d
  · exact big_0 k0 t0 ts ks d hd h0 w ok k t A n c B m e hp
  by_cases h1 : 4 < ks.length
  · exact big_1 k0 t0 ts ks d hd h0 h1 w ok k t A n c B m e hp
  by_cases h2 : 20 < ts.length
  · exact big_2 k0 t0 ts ks d hd h0 h1 h2 w ok k t A n c B m e hp
  by_cases h3 : 300 < t0.size
  · exact big_3 k0 t0 ts ks d hd h0 h1 h2 h3 w ok k t A n c B m e hp
  exact big_go k0 t0 ts ks d hd h0 h1 h2 h3 ih w ok k t A n c B m e hp
end Go.Proofs.YtbaegfjoionojaaDoor.Qy
