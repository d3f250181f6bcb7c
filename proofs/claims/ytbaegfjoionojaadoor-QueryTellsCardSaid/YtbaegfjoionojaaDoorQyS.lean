/- The walk of the reference's SamePath. -/
import Derived.Test.YtbaegfjoionojaaDoorQyN
set_option linter.unusedSimpArgs false
set_option linter.unusedVariables false
namespace Go.Proofs.YtbaegfjoionojaaDoor.Qy
open Go Go.RowKit Go.Proofs.YtbaegfjoionojaaDoor.Tm Go.Proofs.YtbaegfjoionojaaDoorW.PrintWords

def SameC (fn : Nat) (p : Pth) : Prop := ∀ (q : Pth) (w : World) (ok ok2 : Nat → Prop) (k : Int) (t : ByteArray) (A : Option Addr) (n c : Nat) (B : Option Addr) (m e : Nat) (k2 : Int) (t2 : ByteArray) (A2 : Option Addr) (n2 c2 : Nat) (B2 : Option Addr) (m2 e2 : Nat),
  PathAt w ok p [.int .i64 k, .string t, .slice A n c, .slice B m e] → PathAt w ok2 q [.int .i64 k2, .string t2, .slice A2 n2 c2, .slice B2 m2 e2] →
  Calls Tryd.prog fn #[.agg #[.int .i64 k, .string t, .slice A n c, .slice B m e], .agg #[.int .i64 k2, .string t2, .slice A2 n2 c2, .slice B2 m2 e2]] w fun e w' => e = .returned (.bool (sameP p q)) ∧ Below w.heap.size w w'
theorem same_no {p q : Pth} (h : p ≠ q) : sameP p q = false := by
  cases h2 : sameP p q with
  | false => rfl
  | true => exact absurd ((same_iff p q).1 h2) h
theorem same_yes {p q : Pth} (h : p = q) : sameP p q = true := (same_iff p q).2 h
theorem str_ne {a b : ByteArray} (h : a ≠ b) : (a.toList == b.toList) = false ∧ (a.toList != b.toList) = true := by
  have : a.toList ≠ b.toList := by
    intro hh
    rw [ByteArray.toList_eq, ByteArray.toList_eq] at hh
    exact h (ByteArray.ext (Array.ext' hh))
  exact ⟨by rw [beq_eq_false_iff_ne]; exact this, by rw [bne_iff_ne]; exact this⟩
theorem list_same {α : Type} {l m : List α} {n : Nat} (h1 : l.length = n) (h2 : m.length = n) (h : ∀ j, j < n → l[j]? = m[j]?) : l = m := by
  apply List.ext_getElem?
  intro i
  by_cases hi : i < n
  · exact h i hi
  · rw [List.getElem?_eq_none (by omega), List.getElem?_eq_none (by omega)]
set_option maxRecDepth 100000 in
set_option maxHeartbeats 8000000 in
theorem same_k (kk kk2 : Int) (tt tt2 : ByteArray) (ts ts2 : List ByteArray) (ks ks2 : List Pth) (hk : kk ≠ kk2) (w : World) (ok ok2 : Nat → Prop) (k : Int) (t : ByteArray) (A : Option Addr) (n c : Nat) (B : Option Addr) (m e : Nat) (k2 : Int) (t2 : ByteArray) (A2 : Option Addr) (n2 c2 : Nat) (B2 : Option Addr) (m2 e2 : Nat)
    (hp : PathAt w ok (.mk kk tt ts ks) [.int .i64 k, .string t, .slice A n c, .slice B m e]) (hq : PathAt w ok2 (.mk kk2 tt2 ts2 ks2) [.int .i64 k2, .string t2, .slice A2 n2 c2, .slice B2 m2 e2]) :
    Calls Tryd.prog 29 #[.agg #[.int .i64 k, .string t, .slice A n c, .slice B m e], .agg #[.int .i64 k2, .string t2, .slice A2 n2 c2, .slice B2 m2 e2]] w fun e w' => e = .returned (.bool (sameP (.mk kk tt ts ks) (.mk kk2 tt2 ts2 ks2))) ∧ Below w.heap.size w w' := by
  obtain ⟨A1, c1, B1, d1, e0, -, -, hkl, hts, hks⟩ := path_cells hp
  obtain ⟨A3, c3, B3, d3, e3, -, -, hkl2, hts2, hks2⟩ := path_cells hq
  simp only [List.cons.injEq, Value.int.injEq, Value.string.injEq, Value.slice.injEq, true_and, and_true] at e0 e3
  obtain ⟨rfl, rfl, ⟨rfl, rfl, rfl⟩, rfl, rfl, rfl⟩ := e0
  obtain ⟨rfl, rfl, ⟨rfl, rfl, rfl⟩, rfl, rfl, rfl⟩ := e3
  obtain ⟨wa, hwa, HA, HNa⟩ := boxP w k t A ts.length c B ks.length e
  obtain ⟨wb, hwb, HB, HNb⟩ := boxP wa k2 t2 A2 ts2.length c2 B2 ks2.length e2
  have hza : wa.heap.size = w.heap.size + 1 := by rw [hwa]; simp
  have HHW : Aside0 ((w.alloc (.cells #[.int .i64 k, .string t, .slice A ts.length c, .slice B ks.length e] 25)).alloc (.cells #[.int .i64 k2, .string t2, .slice A2 ts2.length c2, .slice B2 ks2.length e2] 25) = wb) := ⟨by rw [hwb, hwa]⟩
  have HN1 := Aside0.mk (blk_below HNa.out HB.out)
  have HN2 := HNb
  rw [hza] at HN2
  have HB0 : Aside0 (Below w.heap.size w wb) := ⟨HA.out.trans (HB.out.mono HA.out.size)⟩
  have HTS : Aside0 (TsAt wb ok A ts) := ⟨hts.move (fun g _ hg => HB0.out.block g hg)⟩
  have HTS2 : Aside0 (TsAt wb ok2 A2 ts2) := ⟨hts2.move (fun g _ hg => HB0.out.block g hg)⟩
  have HKS := Aside0.mk (KidsAt.move (w := w) (w1 := wb) (fun g _ hg => HB0.out.block g hg) ks hks)
  have HKS2 := Aside0.mk (KidsAt.move (w := w) (w1 := wb) (fun g _ hg => HB0.out.block g hg) ks2 hks2)
  clear hwa hwb hza hp hq hts hts2 hks hks2
  have HE : Aside0 (sameP (.mk k t ts ks) (.mk k2 t2 ts2 ks2) = false) := ⟨same_no (fun h => hk (by injection h))⟩
  have n1 : (k == k2) = false := by rw [beq_eq_false_iff_ne]; exact hk
  have n2 : (k != k2) = true := by rw [bne_iff_ne]; exact hk
  clear hk
  go_enter Tryd.func29, Tryd.ntmps29
  go_upto_region 1 with (fail)
  rw [HHW.out]
  have q0 := blk_cell HN1.out 0; have q1 := blk_cell HN1.out 1; have q2 := blk_cell HN1.out 2; have q3 := blk_cell HN1.out 3; simp at q0 q1 q2 q3; have qx0 := blk_cell HN2.out 0; have qx1 := blk_cell HN2.out 1; have qx2 := blk_cell HN2.out 2; have qx3 := blk_cell HN2.out 3; simp at qx0 qx1 qx2 qx3
  go_wp2_with fail
  go_ret
  exact ⟨ret_b HE.out.symm, HB0.out⟩
set_option maxRecDepth 100000 in
set_option maxHeartbeats 8000000 in
theorem same_t (kk kk2 : Int) (tt tt2 : ByteArray) (ts ts2 : List ByteArray) (ks ks2 : List Pth) (hk : kk = kk2) (ht : tt ≠ tt2) (w : World) (ok ok2 : Nat → Prop) (k : Int) (t : ByteArray) (A : Option Addr) (n c : Nat) (B : Option Addr) (m e : Nat) (k2 : Int) (t2 : ByteArray) (A2 : Option Addr) (n2 c2 : Nat) (B2 : Option Addr) (m2 e2 : Nat)
    (hp : PathAt w ok (.mk kk tt ts ks) [.int .i64 k, .string t, .slice A n c, .slice B m e]) (hq : PathAt w ok2 (.mk kk2 tt2 ts2 ks2) [.int .i64 k2, .string t2, .slice A2 n2 c2, .slice B2 m2 e2]) :
    Calls Tryd.prog 29 #[.agg #[.int .i64 k, .string t, .slice A n c, .slice B m e], .agg #[.int .i64 k2, .string t2, .slice A2 n2 c2, .slice B2 m2 e2]] w fun e w' => e = .returned (.bool (sameP (.mk kk tt ts ks) (.mk kk2 tt2 ts2 ks2))) ∧ Below w.heap.size w w' := by
  obtain ⟨A1, c1, B1, d1, e0, -, -, hkl, hts, hks⟩ := path_cells hp
  obtain ⟨A3, c3, B3, d3, e3, -, -, hkl2, hts2, hks2⟩ := path_cells hq
  simp only [List.cons.injEq, Value.int.injEq, Value.string.injEq, Value.slice.injEq, true_and, and_true] at e0 e3
  obtain ⟨rfl, rfl, ⟨rfl, rfl, rfl⟩, rfl, rfl, rfl⟩ := e0
  obtain ⟨rfl, rfl, ⟨rfl, rfl, rfl⟩, rfl, rfl, rfl⟩ := e3
  obtain ⟨wa, hwa, HA, HNa⟩ := boxP w k t A ts.length c B ks.length e
  obtain ⟨wb, hwb, HB, HNb⟩ := boxP wa k2 t2 A2 ts2.length c2 B2 ks2.length e2
  have hza : wa.heap.size = w.heap.size + 1 := by rw [hwa]; simp
  have HHW : Aside0 ((w.alloc (.cells #[.int .i64 k, .string t, .slice A ts.length c, .slice B ks.length e] 25)).alloc (.cells #[.int .i64 k2, .string t2, .slice A2 ts2.length c2, .slice B2 ks2.length e2] 25) = wb) := ⟨by rw [hwb, hwa]⟩
  have HN1 := Aside0.mk (blk_below HNa.out HB.out)
  have HN2 := HNb
  rw [hza] at HN2
  have HB0 : Aside0 (Below w.heap.size w wb) := ⟨HA.out.trans (HB.out.mono HA.out.size)⟩
  have HTS : Aside0 (TsAt wb ok A ts) := ⟨hts.move (fun g _ hg => HB0.out.block g hg)⟩
  have HTS2 : Aside0 (TsAt wb ok2 A2 ts2) := ⟨hts2.move (fun g _ hg => HB0.out.block g hg)⟩
  have HKS := Aside0.mk (KidsAt.move (w := w) (w1 := wb) (fun g _ hg => HB0.out.block g hg) ks hks)
  have HKS2 := Aside0.mk (KidsAt.move (w := w) (w1 := wb) (fun g _ hg => HB0.out.block g hg) ks2 hks2)
  clear hwa hwb hza hp hq hts hts2 hks hks2
  have HE : Aside0 (sameP (.mk k t ts ks) (.mk k2 t2 ts2 ks2) = false) := ⟨same_no (fun h => ht (by injection h))⟩
  obtain ⟨n1, n2⟩ := str_ne ht
  subst hk
  clear ht
  go_enter Tryd.func29, Tryd.ntmps29
  go_upto_region 1 with (fail)
  rw [HHW.out]
  have q0 := blk_cell HN1.out 0; have q1 := blk_cell HN1.out 1; have q2 := blk_cell HN1.out 2; have q3 := blk_cell HN1.out 3; simp at q0 q1 q2 q3; have qx0 := blk_cell HN2.out 0; have qx1 := blk_cell HN2.out 1; have qx2 := blk_cell HN2.out 2; have qx3 := blk_cell HN2.out 3; simp at qx0 qx1 qx2 qx3
  go_wp2_with fail
  go_ret
  exact ⟨ret_b HE.out.symm, HB0.out⟩
set_option maxRecDepth 100000 in
set_option maxHeartbeats 8000000 in
theorem same_tl (kk kk2 : Int) (tt tt2 : ByteArray) (ts ts2 : List ByteArray) (ks ks2 : List Pth) (hk : kk = kk2) (ht : tt = tt2) (hl : ts.length ≠ ts2.length) (w : World) (ok ok2 : Nat → Prop) (k : Int) (t : ByteArray) (A : Option Addr) (n c : Nat) (B : Option Addr) (m e : Nat) (k2 : Int) (t2 : ByteArray) (A2 : Option Addr) (n2 c2 : Nat) (B2 : Option Addr) (m2 e2 : Nat)
    (hp : PathAt w ok (.mk kk tt ts ks) [.int .i64 k, .string t, .slice A n c, .slice B m e]) (hq : PathAt w ok2 (.mk kk2 tt2 ts2 ks2) [.int .i64 k2, .string t2, .slice A2 n2 c2, .slice B2 m2 e2]) :
    Calls Tryd.prog 29 #[.agg #[.int .i64 k, .string t, .slice A n c, .slice B m e], .agg #[.int .i64 k2, .string t2, .slice A2 n2 c2, .slice B2 m2 e2]] w fun e w' => e = .returned (.bool (sameP (.mk kk tt ts ks) (.mk kk2 tt2 ts2 ks2))) ∧ Below w.heap.size w w' := by
  obtain ⟨A1, c1, B1, d1, e0, -, -, hkl, hts, hks⟩ := path_cells hp
  obtain ⟨A3, c3, B3, d3, e3, -, -, hkl2, hts2, hks2⟩ := path_cells hq
  simp only [List.cons.injEq, Value.int.injEq, Value.string.injEq, Value.slice.injEq, true_and, and_true] at e0 e3
  obtain ⟨rfl, rfl, ⟨rfl, rfl, rfl⟩, rfl, rfl, rfl⟩ := e0
  obtain ⟨rfl, rfl, ⟨rfl, rfl, rfl⟩, rfl, rfl, rfl⟩ := e3
  obtain ⟨wa, hwa, HA, HNa⟩ := boxP w k t A ts.length c B ks.length e
  obtain ⟨wb, hwb, HB, HNb⟩ := boxP wa k2 t2 A2 ts2.length c2 B2 ks2.length e2
  have hza : wa.heap.size = w.heap.size + 1 := by rw [hwa]; simp
  have HHW : Aside0 ((w.alloc (.cells #[.int .i64 k, .string t, .slice A ts.length c, .slice B ks.length e] 25)).alloc (.cells #[.int .i64 k2, .string t2, .slice A2 ts2.length c2, .slice B2 ks2.length e2] 25) = wb) := ⟨by rw [hwb, hwa]⟩
  have HN1 := Aside0.mk (blk_below HNa.out HB.out)
  have HN2 := HNb
  rw [hza] at HN2
  have HB0 : Aside0 (Below w.heap.size w wb) := ⟨HA.out.trans (HB.out.mono HA.out.size)⟩
  have HTS : Aside0 (TsAt wb ok A ts) := ⟨hts.move (fun g _ hg => HB0.out.block g hg)⟩
  have HTS2 : Aside0 (TsAt wb ok2 A2 ts2) := ⟨hts2.move (fun g _ hg => HB0.out.block g hg)⟩
  have HKS := Aside0.mk (KidsAt.move (w := w) (w1 := wb) (fun g _ hg => HB0.out.block g hg) ks hks)
  have HKS2 := Aside0.mk (KidsAt.move (w := w) (w1 := wb) (fun g _ hg => HB0.out.block g hg) ks2 hks2)
  clear hwa hwb hza hp hq hts hts2 hks hks2
  have HE : Aside0 (sameP (.mk k t ts ks) (.mk k2 t2 ts2 ks2) = false) := ⟨same_no (fun h => hl (by injection h with _ _ h3 _; rw [h3]))⟩
  have n1 : ((ts.length : Int) == (ts2.length : Int)) = false := by rw [beq_eq_false_iff_ne]; omega
  have n2 : ((ts.length : Int) != (ts2.length : Int)) = true := by rw [bne_iff_ne]; omega
  subst hk ht
  clear hl
  go_enter Tryd.func29, Tryd.ntmps29
  go_upto_region 1 with (fail)
  rw [HHW.out]
  have q0 := blk_cell HN1.out 0; have q1 := blk_cell HN1.out 1; have q2 := blk_cell HN1.out 2; have q3 := blk_cell HN1.out 3; simp at q0 q1 q2 q3; have qx0 := blk_cell HN2.out 0; have qx1 := blk_cell HN2.out 1; have qx2 := blk_cell HN2.out 2; have qx3 := blk_cell HN2.out 3; simp at qx0 qx1 qx2 qx3
  go_wp2_with fail
  go_ret
  exact ⟨ret_b HE.out.symm, HB0.out⟩
set_option maxRecDepth 100000 in
set_option maxHeartbeats 8000000 in
theorem same_kl (kk kk2 : Int) (tt tt2 : ByteArray) (ts ts2 : List ByteArray) (ks ks2 : List Pth) (hk : kk = kk2) (ht : tt = tt2) (hl : ts.length = ts2.length) (hl2 : ks.length ≠ ks2.length) (w : World) (ok ok2 : Nat → Prop) (k : Int) (t : ByteArray) (A : Option Addr) (n c : Nat) (B : Option Addr) (m e : Nat) (k2 : Int) (t2 : ByteArray) (A2 : Option Addr) (n2 c2 : Nat) (B2 : Option Addr) (m2 e2 : Nat)
    (hp : PathAt w ok (.mk kk tt ts ks) [.int .i64 k, .string t, .slice A n c, .slice B m e]) (hq : PathAt w ok2 (.mk kk2 tt2 ts2 ks2) [.int .i64 k2, .string t2, .slice A2 n2 c2, .slice B2 m2 e2]) :
    Calls Tryd.prog 29 #[.agg #[.int .i64 k, .string t, .slice A n c, .slice B m e], .agg #[.int .i64 k2, .string t2, .slice A2 n2 c2, .slice B2 m2 e2]] w fun e w' => e = .returned (.bool (sameP (.mk kk tt ts ks) (.mk kk2 tt2 ts2 ks2))) ∧ Below w.heap.size w w' := by
  obtain ⟨A1, c1, B1, d1, e0, -, -, hkl, hts, hks⟩ := path_cells hp
  obtain ⟨A3, c3, B3, d3, e3, -, -, hkl2, hts2, hks2⟩ := path_cells hq
  simp only [List.cons.injEq, Value.int.injEq, Value.string.injEq, Value.slice.injEq, true_and, and_true] at e0 e3
  obtain ⟨rfl, rfl, ⟨rfl, rfl, rfl⟩, rfl, rfl, rfl⟩ := e0
  obtain ⟨rfl, rfl, ⟨rfl, rfl, rfl⟩, rfl, rfl, rfl⟩ := e3
  obtain ⟨wa, hwa, HA, HNa⟩ := boxP w k t A ts.length c B ks.length e
  obtain ⟨wb, hwb, HB, HNb⟩ := boxP wa k2 t2 A2 ts2.length c2 B2 ks2.length e2
  have hza : wa.heap.size = w.heap.size + 1 := by rw [hwa]; simp
  have HHW : Aside0 ((w.alloc (.cells #[.int .i64 k, .string t, .slice A ts.length c, .slice B ks.length e] 25)).alloc (.cells #[.int .i64 k2, .string t2, .slice A2 ts2.length c2, .slice B2 ks2.length e2] 25) = wb) := ⟨by rw [hwb, hwa]⟩
  have HN1 := Aside0.mk (blk_below HNa.out HB.out)
  have HN2 := HNb
  rw [hza] at HN2
  have HB0 : Aside0 (Below w.heap.size w wb) := ⟨HA.out.trans (HB.out.mono HA.out.size)⟩
  have HTS : Aside0 (TsAt wb ok A ts) := ⟨hts.move (fun g _ hg => HB0.out.block g hg)⟩
  have HTS2 : Aside0 (TsAt wb ok2 A2 ts2) := ⟨hts2.move (fun g _ hg => HB0.out.block g hg)⟩
  have HKS := Aside0.mk (KidsAt.move (w := w) (w1 := wb) (fun g _ hg => HB0.out.block g hg) ks hks)
  have HKS2 := Aside0.mk (KidsAt.move (w := w) (w1 := wb) (fun g _ hg => HB0.out.block g hg) ks2 hks2)
  clear hwa hwb hza hp hq hts hts2 hks hks2
  have HE : Aside0 (sameP (.mk k t ts ks) (.mk k2 t2 ts2 ks2) = false) := ⟨same_no (fun h => hl2 (by injection h with _ _ _ h4; rw [h4]))⟩
  have n1 : ((ks.length : Int) == (ks2.length : Int)) = false := by rw [beq_eq_false_iff_ne]; omega
  have n2 : ((ks.length : Int) != (ks2.length : Int)) = true := by rw [bne_iff_ne]; omega
  subst hk ht
  rw [← hl] at HHW HN2 ⊢
  clear hl hl2
  go_enter Tryd.func29, Tryd.ntmps29
  go_upto_region 1 with (fail)
  rw [HHW.out]
  have q0 := blk_cell HN1.out 0; have q1 := blk_cell HN1.out 1; have q2 := blk_cell HN1.out 2; have q3 := blk_cell HN1.out 3; simp at q0 q1 q2 q3; have qx0 := blk_cell HN2.out 0; have qx1 := blk_cell HN2.out 1; have qx2 := blk_cell HN2.out 2; have qx3 := blk_cell HN2.out 3; simp at qx0 qx1 qx2 qx3
  go_wp2_with fail
  go_ret
  exact ⟨ret_b HE.out.symm, HB0.out⟩
set_option maxRecDepth 100000 in
set_option maxHeartbeats 8000000 in
theorem same_go (kk kk2 : Int) (tt tt2 : ByteArray) (ts ts2 : List ByteArray) (ks ks2 : List Pth) (hk : kk = kk2) (ht : tt = tt2) (hl : ts.length = ts2.length) (hl2 : ks.length = ks2.length) (ih : ∀ q ∈ ks, SameC 29 q) (w : World) (ok ok2 : Nat → Prop) (k : Int) (t : ByteArray) (A : Option Addr) (n c : Nat) (B : Option Addr) (m e : Nat) (k2 : Int) (t2 : ByteArray) (A2 : Option Addr) (n2 c2 : Nat) (B2 : Option Addr) (m2 e2 : Nat)
    (hp : PathAt w ok (.mk kk tt ts ks) [.int .i64 k, .string t, .slice A n c, .slice B m e]) (hq : PathAt w ok2 (.mk kk2 tt2 ts2 ks2) [.int .i64 k2, .string t2, .slice A2 n2 c2, .slice B2 m2 e2]) :
    Calls Tryd.prog 29 #[.agg #[.int .i64 k, .string t, .slice A n c, .slice B m e], .agg #[.int .i64 k2, .string t2, .slice A2 n2 c2, .slice B2 m2 e2]] w fun e w' => e = .returned (.bool (sameP (.mk kk tt ts ks) (.mk kk2 tt2 ts2 ks2))) ∧ Below w.heap.size w w' := by
  obtain ⟨A1, c1, B1, d1, e0, -, -, hkl, hts, hks⟩ := path_cells hp
  obtain ⟨A3, c3, B3, d3, e3, -, -, hkl2, hts2, hks2⟩ := path_cells hq
  simp only [List.cons.injEq, Value.int.injEq, Value.string.injEq, Value.slice.injEq, true_and, and_true] at e0 e3
  obtain ⟨rfl, rfl, ⟨rfl, rfl, rfl⟩, rfl, rfl, rfl⟩ := e0
  obtain ⟨rfl, rfl, ⟨rfl, rfl, rfl⟩, rfl, rfl, rfl⟩ := e3
  obtain ⟨wa, hwa, HA, HNa⟩ := boxP w k t A ts.length c B ks.length e
  obtain ⟨wb, hwb, HB, HNb⟩ := boxP wa k2 t2 A2 ts2.length c2 B2 ks2.length e2
  have hza : wa.heap.size = w.heap.size + 1 := by rw [hwa]; simp
  have HHW : Aside0 ((w.alloc (.cells #[.int .i64 k, .string t, .slice A ts.length c, .slice B ks.length e] 25)).alloc (.cells #[.int .i64 k2, .string t2, .slice A2 ts2.length c2, .slice B2 ks2.length e2] 25) = wb) := ⟨by rw [hwb, hwa]⟩
  have HN1 := Aside0.mk (blk_below HNa.out HB.out)
  have HN2 := HNb
  rw [hza] at HN2
  have HB0 : Aside0 (Below w.heap.size w wb) := ⟨HA.out.trans (HB.out.mono HA.out.size)⟩
  have HTS : Aside0 (TsAt wb ok A ts) := ⟨hts.move (fun g _ hg => HB0.out.block g hg)⟩
  have HTS2 : Aside0 (TsAt wb ok2 A2 ts2) := ⟨hts2.move (fun g _ hg => HB0.out.block g hg)⟩
  have HKS := Aside0.mk (KidsAt.move (w := w) (w1 := wb) (fun g _ hg => HB0.out.block g hg) ks hks)
  have HKS2 := Aside0.mk (KidsAt.move (w := w) (w1 := wb) (fun g _ hg => HB0.out.block g hg) ks2 hks2)
  clear hwa hwb hza hp hq hts hts2 hks hks2
  subst hk ht
  have HL := Aside0.mk hl
  have HL2 := Aside0.mk hl2
  have HIH := Aside0.mk ih
  rw [← hl, ← hl2] at HHW HN2
  rw [← hl, ← hl2]
  have htm : ts.length ≤ 9223372036854775807 := HTS.out.1
  clear hl hl2 ih
  go_enter Tryd.func29, Tryd.ntmps29
  go_upto_region 1 with (fail)
  rw [HHW.out]
  have q0 := blk_cell HN1.out 0; have q1 := blk_cell HN1.out 1; have q2 := blk_cell HN1.out 2; have q3 := blk_cell HN1.out 3; simp at q0 q1 q2 q3; have qx0 := blk_cell HN2.out 0; have qx1 := blk_cell HN2.out 1; have qx2 := blk_cell HN2.out 2; have qx3 := blk_cell HN2.out 3; simp at qx0 qx1 qx2 qx3
  go_upto_region 3 with (fail)
  clear q0 q1 q2 q3 qx0 qx1 qx2 qx3
  go_wp2_with fail
  go_loopw [5] (fun x wr => ∃ i : Nat, i ≤ ts.length ∧ x = .int .i64 i ∧ Aside0 (Below wb.heap.size wb wr) ∧ Aside0 (∀ j, j < i → ts[j]? = ts2[j]?)) (fun x _ => ts.length - (intOf x).toNat)
  case atStart => exact ⟨0, by omega, rfl, ⟨Below.refl _ _⟩, ⟨fun j h => by omega⟩⟩
  case round =>
    obtain ⟨wv, rfl⟩ : ∃ x, x = wr := ⟨wr, rfl⟩
    obtain ⟨i, hi, rfl, HBv, HA1⟩ := hrel
    have HNv := Aside0.mk (blk_below HN1.out HBv.out)
    have HMv := Aside0.mk (blk_below HN2.out HBv.out)
    have q0 := blk_cell HNv.out 0; have q1 := blk_cell HNv.out 1; have q2 := blk_cell HNv.out 2; have q3 := blk_cell HNv.out 3; simp at q0 q1 q2 q3; have qx0 := blk_cell HMv.out 0; have qx1 := blk_cell HMv.out 1; have qx2 := blk_cell HMv.out 2; have qx3 := blk_cell HMv.out 3; simp at qx0 qx1 qx2 qx3
    by_cases hin : i < ts.length
    · obtain ⟨x, hx⟩ : ∃ x, ts[i]? = some x := ⟨ts[i]'hin, List.getElem?_eq_getElem _⟩
      obtain ⟨y, hy⟩ : ∃ y, ts2[i]? = some y := ⟨ts2[i]'(by rw [← HL.out]; exact hin), List.getElem?_eq_getElem _⟩
      obtain ⟨tb, tf, hA, -, htc⟩ := HTS.out.2 (by omega)
      obtain ⟨ub, uf, hA2, -, huc⟩ := HTS2.out.2 (by rw [← HL.out]; omega)
      have hc1 := pw_cell_below HBv.out (htc i x hx)
      have hc2 := pw_cell_below HBv.out (huc i y hy)
      subst hA hA2
      have g0 : (0 : Int) ≤ (i : Int) := by omega
      have g1 : (i : Int) < (ts.length : Int) := by omega
      have HXY : Aside0 (ts[i]? = some x ∧ ts2[i]? = some y) := ⟨⟨hx, hy⟩⟩
      clear htc huc hx hy
      by_cases hxy : x = y
      · subst hxy
        go_wp2_with fail
        go_quiet (fail)
        go_wp2_with fail
        go_roundw
        case rel => exact ⟨i + 1, by omega, by go_num, ⟨pw_below_drewN HBv.out _⟩, ⟨fun j hj => by
          by_cases h : j = i
          · subst h; rw [HXY.out.1, HXY.out.2]
          · exact HA1.out j (by omega)⟩⟩
        case measure => simp [intOf]; omega
      · obtain ⟨n1, n2⟩ := str_ne hxy
        have HE : Aside0 (sameP (.mk k t ts ks) (.mk k t ts2 ks2) = false) := ⟨same_no (fun h => hxy (by
          injection h with _ _ h3 _
          have := HXY.out.1
          rw [h3] at this
          exact Option.some.inj (this.symm.trans HXY.out.2)))⟩
        clear hxy
        go_wp2_with fail
        go_quiet (fail)
        go_wp2_with fail
        go_ret
        exact ⟨ret_b HE.out.symm, HB0.out.trans ((pw_below_drewN HBv.out _).mono HB0.out.size)⟩
    · have HTT : Aside0 (ts = ts2) := ⟨list_same rfl HL.out.symm (fun j hj => HA1.out j (by omega))⟩
      go_wp2_with fail
      clear q0 q1 q2 q3 qx0 qx1 qx2 qx3
      go_loopw [6] (fun x wr => ∃ i : Nat, i ≤ ks.length ∧ x = .int .i64 i ∧ Aside0 (Below wb.heap.size wb wr) ∧ Aside0 (∀ j, j < i → ks[j]? = ks2[j]?)) (fun x _ => ks.length - (intOf x).toNat)
      case atStart => exact ⟨0, by omega, rfl, HBv, ⟨fun j h => by omega⟩⟩
      case round =>
        clear HBv HNv HMv
        obtain ⟨wu, rfl⟩ : ∃ x, x = wr := ⟨wr, rfl⟩
        obtain ⟨i, hi, rfl, HBu, HA2⟩ := hrel
        have HNv := Aside0.mk (blk_below HN1.out HBu.out)
        have HMv := Aside0.mk (blk_below HN2.out HBu.out)
        have q0 := blk_cell HNv.out 0; have q1 := blk_cell HNv.out 1; have q2 := blk_cell HNv.out 2; have q3 := blk_cell HNv.out 3; simp at q0 q1 q2 q3; have qx0 := blk_cell HMv.out 0; have qx1 := blk_cell HMv.out 1; have qx2 := blk_cell HMv.out 2; have qx3 := blk_cell HMv.out 3; simp at qx0 qx1 qx2 qx3
        by_cases hin : i < ks.length
        · obtain ⟨x, hx⟩ : ∃ x, ks[i]? = some x := ⟨ks[i]'hin, List.getElem?_eq_getElem _⟩
          obtain ⟨y, hy⟩ : ∃ y, ks2[i]? = some y := ⟨ks2[i]'(by rw [← HL2.out]; exact hin), List.getElem?_eq_getElem _⟩
          obtain ⟨kb, ko, cs1, hB, -, hc1, hp1⟩ := KidsAt.get _ (KidsAt.move (w := wb) (w1 := wu) (fun g _ hg => HBu.out.block g hg) ks HKS.out) i x hx
          obtain ⟨lb, lo, cs2, hB2, -, hc2, hp2⟩ := KidsAt.get _ (KidsAt.move (w := wb) (w1 := wu) (fun g _ hg => HBu.out.block g hg) ks2 HKS2.out) i y hy
          have CI := HIH.out x (List.mem_of_getElem? hx) y
          have HXY : Aside0 (ks[i]? = some x ∧ ks2[i]? = some y) := ⟨⟨hx, hy⟩⟩
          obtain ⟨b, hb⟩ : ∃ b, sameP x y = b := ⟨_, rfl⟩
          rw [hb] at CI
          have HBB := Aside0.mk hb
          obtain ⟨k', t', ts', ks'⟩ := x
          obtain ⟨k3', t3', ts3', ks3'⟩ := y
          obtain ⟨A', c', B', d', rfl, -⟩ := path_cells hp1
          obtain ⟨A3', c3', B3', d3', rfl, -⟩ := path_cells hp2
          subst hB hB2
          have a0 := hc1 0 _ rfl
          have a1 := hc1 1 _ rfl
          have a2 := hc1 2 _ rfl
          have a3 := hc1 3 _ rfl
          have b0 := hc2 0 _ rfl
          have b1 := hc2 1 _ rfl
          have b2 := hc2 2 _ rfl
          have b3 := hc2 3 _ rfl
          simp at a0 a1 a2 a3 b0 b1 b2 b3
          have CC : Aside0 (∀ W, Below wu.heap.size wu W → Calls Tryd.prog 29 #[.agg #[.int .i64 k', .string t', .slice A' ts'.length c', .slice B' ks'.length d'], .agg #[.int .i64 k3', .string t3', .slice A3' ts3'.length c3', .slice B3' ks3'.length d3']] W fun e w' => e = .returned (.bool b) ∧ Below W.heap.size W w') := ⟨fun W hW => CI W ok ok2 _ _ _ _ _ _ _ _ _ _ _ _ _ _ _ _ (hp1.below hW) (hp2.below hW)⟩
          have HS : Aside0 (∀ W, Below wu.heap.size wu W → (fun W : World => (W.cell? ⟨w.heap.size, 3, none⟩ = some (.slice (some ⟨kb, ko, none⟩) ks.length e) ∧ W.cell? ⟨w.heap.size + 1, 3, none⟩ = some (.slice (some ⟨lb, lo, none⟩) ks.length e2)) ∧ (W.cell? ⟨kb, ko + i * 4, none⟩ = some (.int .i64 k') ∧ W.cell? ⟨kb, ko + i * 4 + 1, none⟩ = some (.string t') ∧ W.cell? ⟨kb, ko + i * 4 + 2, none⟩ = some (.slice A' ts'.length c') ∧ W.cell? ⟨kb, ko + i * 4 + 3, none⟩ = some (.slice B' ks'.length d')) ∧ (W.cell? ⟨lb, lo + i * 4, none⟩ = some (.int .i64 k3') ∧ W.cell? ⟨lb, lo + i * 4 + 1, none⟩ = some (.string t3') ∧ W.cell? ⟨lb, lo + i * 4 + 2, none⟩ = some (.slice A3' ts3'.length c3') ∧ W.cell? ⟨lb, lo + i * 4 + 3, none⟩ = some (.slice B3' ks3'.length d3'))) W) := ⟨fun W h => ⟨⟨pw_cell_below h q3, pw_cell_below h qx3⟩, ⟨pw_cell_below h a0, pw_cell_below h a1, pw_cell_below h a2, pw_cell_below h a3⟩, ⟨pw_cell_below h b0, pw_cell_below h b1, pw_cell_below h b2, pw_cell_below h b3⟩⟩⟩
          have g0 : (0 : Int) ≤ (i : Int) := by omega
          have g1 : (i : Int) < (ks.length : Int) := by omega
          clear hx hy hc1 hc2 hp1 hp2 CI hb a0 a1 a2 a3 b0 b1 b2 b3
          go_upto_region 11 with (fail)
          clear q0 q1 q2 q3 qx0 qx1 qx2 qx3
          have hS : (fun W : World => (W.cell? ⟨w.heap.size, 3, none⟩ = some (.slice (some ⟨kb, ko, none⟩) ks.length e) ∧ W.cell? ⟨w.heap.size + 1, 3, none⟩ = some (.slice (some ⟨lb, lo, none⟩) ks.length e2)) ∧ (W.cell? ⟨kb, ko + i * 4, none⟩ = some (.int .i64 k') ∧ W.cell? ⟨kb, ko + i * 4 + 1, none⟩ = some (.string t') ∧ W.cell? ⟨kb, ko + i * 4 + 2, none⟩ = some (.slice A' ts'.length c') ∧ W.cell? ⟨kb, ko + i * 4 + 3, none⟩ = some (.slice B' ks'.length d')) ∧ (W.cell? ⟨lb, lo + i * 4, none⟩ = some (.int .i64 k3') ∧ W.cell? ⟨lb, lo + i * 4 + 1, none⟩ = some (.string t3') ∧ W.cell? ⟨lb, lo + i * 4 + 2, none⟩ = some (.slice A3' ts3'.length c3') ∧ W.cell? ⟨lb, lo + i * 4 + 3, none⟩ = some (.slice B3' ks3'.length d3'))) wu.drew := HS.out _ (below_drew (Below.refl wu.heap.size wu))
          refine wp_region_held (S := (fun W : World => (W.cell? ⟨w.heap.size, 3, none⟩ = some (.slice (some ⟨kb, ko, none⟩) ks.length e) ∧ W.cell? ⟨w.heap.size + 1, 3, none⟩ = some (.slice (some ⟨lb, lo, none⟩) ks.length e2)) ∧ (W.cell? ⟨kb, ko + i * 4, none⟩ = some (.int .i64 k') ∧ W.cell? ⟨kb, ko + i * 4 + 1, none⟩ = some (.string t') ∧ W.cell? ⟨kb, ko + i * 4 + 2, none⟩ = some (.slice A' ts'.length c') ∧ W.cell? ⟨kb, ko + i * 4 + 3, none⟩ = some (.slice B' ks'.length d')) ∧ (W.cell? ⟨lb, lo + i * 4, none⟩ = some (.int .i64 k3') ∧ W.cell? ⟨lb, lo + i * 4 + 1, none⟩ = some (.string t3') ∧ W.cell? ⟨lb, lo + i * 4 + 2, none⟩ = some (.slice A3' ts3'.length c3') ∧ W.cell? ⟨lb, lo + i * 4 + 3, none⟩ = some (.slice B3' ks3'.length d3')))) (by kernel_rfl) ?_
          change wpAnyH _ _ _ _ _ _ _ _ wu.drew
          first | refine tkU 0 hS ?_ | (refine tkV 0 (v := ?_) hS ?_ ?_; rotate_left 1; · (intro w0 hSw; (try dsimp only at hSw); go_split_ands; go_simp; try with_reducible rfl)) | fail
          try simp only [Act.put, pL]
          first | refine tkU 1 hS ?_ | (refine tkV 1 (v := ?_) hS ?_ ?_; rotate_left 1; · (intro w0 hSw; (try dsimp only at hSw); go_split_ands; go_simp; try with_reducible rfl)) | fail
          try simp only [Act.put, pL]
          first | refine tkU 2 hS ?_ | (refine tkV 2 (v := ?_) hS ?_ ?_; rotate_left 1; · (intro w0 hSw; (try dsimp only at hSw); go_split_ands; go_simp; try with_reducible rfl)) | fail
          try simp only [Act.put, pL]
          first | refine tkU 3 hS ?_ | (refine tkV 3 (v := ?_) hS ?_ ?_; rotate_left 1; · (intro w0 hSw; (try dsimp only at hSw); go_split_ands; go_simp; try with_reducible rfl)) | fail
          try simp only [Act.put, pL]
          first | refine tkU 4 hS ?_ | (refine tkV 4 (v := ?_) hS ?_ ?_; rotate_left 1; · (intro w0 hSw; (try dsimp only at hSw); go_split_ands; go_simp; try with_reducible rfl)) | fail
          try simp only [Act.put, pL]
          first | refine tkU 5 hS ?_ | (refine tkV 5 (v := ?_) hS ?_ ?_; rotate_left 1; · (intro w0 hSw; (try dsimp only at hSw); go_split_ands; go_simp; try with_reducible rfl)) | fail
          try simp only [Act.put, pL]
          first | refine tkU 6 hS ?_ | (refine tkV 6 (v := ?_) hS ?_ ?_; rotate_left 1; · (intro w0 hSw; (try dsimp only at hSw); go_split_ands; go_simp; try with_reducible rfl)) | fail
          try simp only [Act.put, pL]
          first | refine tkU 7 hS ?_ | (refine tkV 7 (v := ?_) hS ?_ ?_; rotate_left 1; · (intro w0 hSw; (try dsimp only at hSw); go_split_ands; go_simp; try with_reducible rfl)) | fail
          try simp only [Act.put, pL]
          first | refine tkU 8 hS ?_ | (refine tkV 8 (v := ?_) hS ?_ ?_; rotate_left 1; · (intro w0 hSw; (try dsimp only at hSw); go_split_ands; go_simp; try with_reducible rfl)) | fail
          try simp only [Act.put, pL]
          first | refine tkU 9 hS ?_ | (refine tkV 9 (v := ?_) hS ?_ ?_; rotate_left 1; · (intro w0 hSw; (try dsimp only at hSw); go_split_ands; go_simp; try with_reducible rfl)) | fail
          try simp only [Act.put, pL]
          refine wpAnyH_ready (rs := [10]) (by kernel_rfl) (by simp) ?_
          refine AllReadyH.cons rfl (fun K hK => ?_) AllReadyH.nil
          go_simp
          refine (CC.out _ (below_drew (Below.refl wu.heap.size wu))).mono ?_
          rintro e w2 ⟨rfl, hb⟩
          have HB2 := Aside0.mk (below_then (below_drew (Below.refl wu.heap.size wu)) (Nat.le_refl _) hb)
          clear hb hS
          have hS : (fun W : World => (W.cell? ⟨w.heap.size, 3, none⟩ = some (.slice (some ⟨kb, ko, none⟩) ks.length e) ∧ W.cell? ⟨w.heap.size + 1, 3, none⟩ = some (.slice (some ⟨lb, lo, none⟩) ks.length e2)) ∧ (W.cell? ⟨kb, ko + i * 4, none⟩ = some (.int .i64 k') ∧ W.cell? ⟨kb, ko + i * 4 + 1, none⟩ = some (.string t') ∧ W.cell? ⟨kb, ko + i * 4 + 2, none⟩ = some (.slice A' ts'.length c') ∧ W.cell? ⟨kb, ko + i * 4 + 3, none⟩ = some (.slice B' ks'.length d')) ∧ (W.cell? ⟨lb, lo + i * 4, none⟩ = some (.int .i64 k3') ∧ W.cell? ⟨lb, lo + i * 4 + 1, none⟩ = some (.string t3') ∧ W.cell? ⟨lb, lo + i * 4 + 2, none⟩ = some (.slice A3' ts3'.length c3') ∧ W.cell? ⟨lb, lo + i * 4 + 3, none⟩ = some (.slice B3' ks3'.length d3'))) w2 := HS.out _ HB2.out
          refine hK.out _ _ hS (fun _ => ?_)
          clear hK K
          try simp only [Act.put, pL]
          first | refine tkU 11 hS ?_ | (refine tkV 11 (v := ?_) hS ?_ ?_; rotate_left 1; · (intro w0 hSw; (try dsimp only at hSw); go_split_ands; go_simp; try with_reducible rfl)) | fail
          try simp only [Act.put, pL]
          refine wpAnyH_done (by kernel_rfl) ?_ _
          have HB3 := Aside0.mk (below_then HBu.out HBu.out.size HB2.out)
          clear hS
          cases b with
          | true =>
            go_wp2_with fail
            go_roundw
            case rel => exact ⟨i + 1, by omega, by go_num, HB3, ⟨fun j hj => by
              by_cases h : j = i
              · subst h; rw [HXY.out.1, HXY.out.2, (same_iff _ _).1 HBB.out]
              · exact HA2.out j (by omega)⟩⟩
            case measure => simp [intOf]; omega
          | false =>
            have HE : Aside0 (sameP (.mk k t ts ks) (.mk k t ts2 ks2) = false) := ⟨same_no (fun h => by
              injection h with _ _ _ h4
              have := HXY.out.1
              rw [h4] at this
              have he := Option.some.inj (this.symm.trans HXY.out.2)
              have := HBB.out
              rw [he, same_yes rfl] at this
              cases this)⟩
            go_wp2_with fail
            go_ret
            exact ⟨ret_b HE.out.symm, HB0.out.trans (HB3.out.mono HB0.out.size)⟩
        · have HE : Aside0 (sameP (.mk k t ts ks) (.mk k t ts2 ks2) = true) := ⟨same_yes (by rw [HTT.out, list_same rfl HL2.out.symm (fun j hj => HA2.out j (by omega))])⟩
          go_wp2_with fail
          go_ret
          exact ⟨ret_b HE.out.symm, HB0.out.trans (HBu.out.mono HB0.out.size)⟩
theorem refSame_any : ∀ p, SameC 29 p := by
  intro p
  induction p using Pth.ind with
  | h kk tt ts ks ih =>
  intro q w ok ok2 k t A n c B m e k2 t2 A2 n2 c2 B2 m2 e2 hp hq
  obtain ⟨kk2, tt2, ts2, ks2⟩ := q
  by_cases hk : kk = kk2
  · by_cases ht : tt = tt2
    · by_cases hl : ts.length = ts2.length
      · by_cases hl2 : ks.length = ks2.length
        · exact same_go kk kk2 tt tt2 ts ts2 ks ks2 hk ht hl hl2 ih w ok ok2 _ _ _ _ _ _ _ _ _ _ _ _ _ _ _ _ hp hq
        · exact same_kl kk kk2 tt tt2 ts ts2 ks ks2 hk ht hl hl2 w ok ok2 _ _ _ _ _ _ _ _ _ _ _ _ _ _ _ _ hp hq
      · exact same_tl kk kk2 tt tt2 ts ts2 ks ks2 hk ht hl w ok ok2 _ _ _ _ _ _ _ _ _ _ _ _ _ _ _ _ hp hq
    · exact same_t kk kk2 tt tt2 ts ts2 ks ks2 hk ht w ok ok2 _ _ _ _ _ _ _ _ _ _ _ _ _ _ _ _ hp hq
  · exact same_k kk kk2 tt tt2 ts ts2 ks ks2 hk w ok ok2 _ _ _ _ _ _ _ _ _ _ _ _ _ _ _ _ hp hq
end Go.Proofs.YtbaegfjoionojaaDoor.Qy
