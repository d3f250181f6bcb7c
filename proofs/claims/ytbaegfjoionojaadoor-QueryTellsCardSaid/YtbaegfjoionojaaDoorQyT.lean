/- The walk of query.SamePath. -/
import Derived.Test.YtbaegfjoionojaaDoorQyS
set_option linter.unusedSimpArgs false
set_option linter.unusedVariables false
namespace Go.Proofs.YtbaegfjoionojaaDoor.Qy
open Go Go.RowKit Go.Proofs.YtbaegfjoionojaaDoor.Tm Go.Proofs.YtbaegfjoionojaaDoorW.PrintWords

theorem getD_eq {ts : List ByteArray} {j : Nat} (hj : j < ts.length) : ts[j]? = some (ts.getD j ByteArray.empty) := by
  simp [hj]
theorem eqS_any (ts ts2 : List ByteArray) (w : World) (ok ok2 : Nat → Prop) (A A2 : Option Addr) (c c2 : Nat) (h1 : TsAt w ok A ts) (h2 : TsAt w ok2 A2 ts2) :
    Calls Tryd.prog 63 #[.slice A ts.length c, .slice A2 ts2.length c2] w fun e w' => e = .returned (.bool (decide (ts = ts2))) ∧ Below w.heap.size w w' := by
  have m1 : ts.length ≤ 9223372036854775807 := h1.1
  have m2 : ts2.length ≤ 9223372036854775807 := h2.1
  by_cases hl : ts.length = ts2.length
  · by_cases h0 : ts.length = 0
    · have e1 : ts = [] := List.length_eq_zero_iff.1 h0
      have e2 : ts2 = [] := List.length_eq_zero_iff.1 (by omega)
      subst e1 e2
      refine (Tryd.slices_Equal_string_empty A A2 c 0 c2 w (by omega)).mono ?_
      rintro e w' ⟨rfl, rfl⟩
      exact ⟨by simp, Below.refl _ _⟩
    · obtain ⟨b1, o1, rfl, -, hc1⟩ := h1.2 (by omega)
      obtain ⟨b2, o2, rfl, -, hc2⟩ := h2.2 (by omega)
      refine (Tryd.slices_Equal_string b1 o1 ts.length c b2 o2 ts2.length c2 ts ts2 w (Nat.le_refl _) (Nat.le_refl _) m1 m2 (fun j hj => hc1 j _ (getD_eq hj)) (fun j hj => hc2 j _ (getD_eq hj))).mono ?_
      rintro e w' ⟨rfl, q, rfl⟩
      exact ⟨by rw [List.take_length, List.take_length], pw_below_drewN (Below.refl _ _) _⟩
  · refine (Tryd.slices_Equal_string_lens A A2 ts.length c ts2.length c2 w hl).mono ?_
    rintro e w' ⟨rfl, rfl⟩
    exact ⟨by rw [decide_eq_false (fun h => hl (by rw [h]))], Below.refl _ _⟩
theorem sameL_no {l m : List Pth} (h : l ≠ m) : sameL l m = false := by
  cases h2 : sameL l m with
  | false => rfl
  | true => exact absurd ((sameL_iff l m).1 h2) h
theorem sameL_yes {l m : List Pth} (h : l = m) : sameL l m = true := (sameL_iff l m).2 h
set_option maxRecDepth 100000 in
set_option maxHeartbeats 8000000 in
theorem eqF_no (ks ks2 : List Pth) (hl : ks.length ≠ ks2.length) (w : World) (ok ok2 : Nat → Prop) (B B2 : Option Addr) (e e2 : Nat) (h1 : KidsAt w ok B 0 ks) (h2 : KidsAt w ok2 B2 0 ks2) (m1 : ks.length ≤ 9223372036854775807) :
    Calls Tryd.prog 64 #[.slice B ks.length e, .slice B2 ks2.length e2, .func (.func 31) #[] #[]] w fun e w' => e = .returned (.bool (sameL ks ks2)) ∧ Below w.heap.size w w' := by
  have HE : Aside0 (sameL ks ks2 = false) := ⟨sameL_no (fun h => hl (by rw [h]))⟩
  have n2 : ((ks.length : Int) != (ks2.length : Int)) = true := by rw [bne_iff_ne]; omega
  clear h1 h2 hl
  go_enter Tryd.func64, Tryd.ntmps64
  go_wp2_with fail
  go_ret
  exact ⟨ret_b HE.out.symm, Below.refl _ _⟩
set_option maxRecDepth 100000 in
set_option maxHeartbeats 8000000 in
theorem eqF_go (ks ks2 : List Pth) (hl : ks.length = ks2.length) (ih : ∀ q ∈ ks, SameC 31 q) (w : World) (ok ok2 : Nat → Prop) (B B2 : Option Addr) (e e2 : Nat) (h1 : KidsAt w ok B 0 ks) (h2 : KidsAt w ok2 B2 0 ks2) (m1 : ks.length ≤ 9223372036854775807) :
    Calls Tryd.prog 64 #[.slice B ks.length e, .slice B2 ks2.length e2, .func (.func 31) #[] #[]] w fun e w' => e = .returned (.bool (sameL ks ks2)) ∧ Below w.heap.size w w' := by
  have HL := Aside0.mk hl
  have HIH := Aside0.mk ih
  have HKS := Aside0.mk h1
  have HKS2 := Aside0.mk h2
  rw [← hl]
  clear h1 h2 hl ih
  go_enter Tryd.func64, Tryd.ntmps64
  go_wp2_with fail
  go_loopw [17] (fun x wr => ∃ i : Nat, i ≤ ks.length ∧ x = .int .i64 i ∧ Aside0 (Below w.heap.size w wr) ∧ Aside0 (∀ j, j < i → ks[j]? = ks2[j]?)) (fun x _ => ks.length - (intOf x).toNat)
  case atStart => exact ⟨0, by omega, rfl, ⟨Below.refl _ _⟩, ⟨fun j h => by omega⟩⟩
  case round =>
    obtain ⟨wv, rfl⟩ : ∃ x, x = wr := ⟨wr, rfl⟩
    obtain ⟨i, hi, rfl, HBv, HA1⟩ := hrel
    by_cases hin : i < ks.length
    · obtain ⟨x, hx⟩ : ∃ x, ks[i]? = some x := ⟨ks[i]'hin, List.getElem?_eq_getElem _⟩
      obtain ⟨y, hy⟩ : ∃ y, ks2[i]? = some y := ⟨ks2[i]'(by rw [← HL.out]; exact hin), List.getElem?_eq_getElem _⟩
      obtain ⟨kb, ko, cs1, hB, -, hc1, hp1⟩ := KidsAt.get _ (KidsAt.move (w := w) (w1 := wv) (fun g _ hg => HBv.out.block g hg) ks HKS.out) i x hx
      obtain ⟨lb, lo, cs2, hB2, -, hc2, hp2⟩ := KidsAt.get _ (KidsAt.move (w := w) (w1 := wv) (fun g _ hg => HBv.out.block g hg) ks2 HKS2.out) i y hy
      have CI := HIH.out x (List.mem_of_getElem? hx) y
      have HXY : Aside0 (ks[i]? = some x ∧ ks2[i]? = some y) := ⟨⟨hx, hy⟩⟩
      obtain ⟨b, hb⟩ : ∃ b, sameP x y = b := ⟨_, rfl⟩
      rw [hb] at CI
      have HBB := Aside0.mk hb
      obtain ⟨k', t', ts', ks'⟩ := x
      obtain ⟨k3', t3', ts3', ks3'⟩ := y
      obtain ⟨A', c', B', d', rfl, -⟩ := path_cells hp1
      obtain ⟨A3', c3', B3', d3', rfl, -⟩ := path_cells hp2
      subst hB hB2
      have a0 := hc1 0 _ rfl
      have a1 := hc1 1 _ rfl
      have a2 := hc1 2 _ rfl
      have a3 := hc1 3 _ rfl
      have b0 := hc2 0 _ rfl
      have b1 := hc2 1 _ rfl
      have b2 := hc2 2 _ rfl
      have b3 := hc2 3 _ rfl
      simp at a0 a1 a2 a3 b0 b1 b2 b3
      have CC : Aside0 (∀ W, Below wv.heap.size wv W → Calls Tryd.prog 31 #[.agg #[.int .i64 k', .string t', .slice A' ts'.length c', .slice B' ks'.length d'], .agg #[.int .i64 k3', .string t3', .slice A3' ts3'.length c3', .slice B3' ks3'.length d3']] W fun e w' => e = .returned (.bool b) ∧ Below W.heap.size W w') := ⟨fun W hW => CI W ok ok2 _ _ _ _ _ _ _ _ _ _ _ _ _ _ _ _ (hp1.below hW) (hp2.below hW)⟩
      obtain ⟨wa, hwa, HA, HNa⟩ := boxP wv k' t' A' ts'.length c' B' ks'.length d'
      obtain ⟨wb, hwb, HB, HNb⟩ := boxP wa k3' t3' A3' ts3'.length c3' B3' ks3'.length d3'
      have b0 := pw_cell_below HA.out b0
      have b1 := pw_cell_below HA.out b1
      have b2 := pw_cell_below HA.out b2
      have b3 := pw_cell_below HA.out b3
      have HHa : Aside0 (wv.alloc (.cells #[.int .i64 k', .string t', .slice A' ts'.length c', .slice B' ks'.length d'] 25) = wa) := ⟨hwa.symm⟩
      have HHb : Aside0 (wa.alloc (.cells #[.int .i64 k3', .string t3', .slice A3' ts3'.length c3', .slice B3' ks3'.length d3'] 25) = wb) := ⟨hwb.symm⟩
      have HN1 := Aside0.mk (blk_below HNa.out HB.out)
      have HN2 := HNb
      have HBb : Aside0 (Below wv.heap.size wv wb) := ⟨HA.out.trans (HB.out.mono HA.out.size)⟩
      have CS := Aside0.mk (CC.out wb HBb.out)
      have g0 : (0 : Int) ≤ (i : Int) := by omega
      have g1 : (i : Int) < (ks.length : Int) := by omega
      clear hx hy hc1 hc2 hp1 hp2 CI hb hwa hwb CC
      go_upto_region 6 with (fail)
      rw [HHa.out]
      clear a0 a1 a2 a3
      go_upto_region 7 with (fail)
      rw [HHb.out]
      clear b0 b1 b2 b3
      have q0 := blk_cell HN1.out 0; have q1 := blk_cell HN1.out 1; have q2 := blk_cell HN1.out 2; have q3 := blk_cell HN1.out 3; simp at q0 q1 q2 q3; have qx0 := blk_cell HN2.out 0; have qx1 := blk_cell HN2.out 1; have qx2 := blk_cell HN2.out 2; have qx3 := blk_cell HN2.out 3; simp at qx0 qx1 qx2 qx3
      cases b with
      | true =>
        go_wp2_with (go_at_call 31; (with_reducible refine CS.out.mono ?_); rintro e w5 ⟨rfl, hb5⟩; have HB5 := Aside0.mk (below_then HBb.out HBb.out.size hb5); clear hb5)
        have HB6 := Aside0.mk (below_then HBv.out HBv.out.size HB5.out)
        go_roundw
        case rel => exact ⟨i + 1, by omega, by go_num, HB6, ⟨fun j hj => by
          by_cases h : j = i
          · subst h; rw [HXY.out.1, HXY.out.2, (same_iff _ _).1 HBB.out]
          · exact HA1.out j (by omega)⟩⟩
        case measure => simp [intOf]; omega
      | false =>
        have HE : Aside0 (sameL ks ks2 = false) := ⟨sameL_no (fun h => by
          have := HXY.out.1
          rw [h] at this
          have he := Option.some.inj (this.symm.trans HXY.out.2)
          have := HBB.out
          rw [he, same_yes rfl] at this
          cases this)⟩
        go_wp2_with (go_at_call 31; (with_reducible refine CS.out.mono ?_); rintro e w5 ⟨rfl, hb5⟩; have HB5 := Aside0.mk (below_then HBb.out HBb.out.size hb5); clear hb5)
        have HB6 := Aside0.mk (below_then HBv.out HBv.out.size HB5.out)
        go_ret
        exact ⟨ret_b HE.out.symm, HB6.out⟩
    · have HE : Aside0 (sameL ks ks2 = true) := ⟨sameL_yes (list_same rfl HL.out.symm (fun j hj => HA1.out j (by omega)))⟩
      go_wp2_with fail
      go_ret
      exact ⟨ret_b HE.out.symm, HBv.out⟩
theorem eqF_any (ks ks2 : List Pth) (ih : ∀ q ∈ ks, SameC 31 q) (w : World) (ok ok2 : Nat → Prop) (B B2 : Option Addr) (e e2 : Nat) (h1 : KidsAt w ok B 0 ks) (h2 : KidsAt w ok2 B2 0 ks2) (m1 : ks.length ≤ 9223372036854775807) :
    Calls Tryd.prog 64 #[.slice B ks.length e, .slice B2 ks2.length e2, .func (.func 31) #[] #[]] w fun e w' => e = .returned (.bool (sameL ks ks2)) ∧ Below w.heap.size w w' := by
  by_cases hl : ks.length = ks2.length
  · exact eqF_go ks ks2 hl ih w ok ok2 B B2 e e2 h1 h2 m1
  · exact eqF_no ks ks2 hl w ok ok2 B B2 e e2 h1 h2 m1
set_option maxRecDepth 100000 in
set_option maxHeartbeats 8000000 in
theorem psame_k (kk kk2 : Int) (tt tt2 : ByteArray) (ts ts2 : List ByteArray) (ks ks2 : List Pth) (hk : kk ≠ kk2) (w : World) (ok ok2 : Nat → Prop) (k : Int) (t : ByteArray) (A : Option Addr) (n c : Nat) (B : Option Addr) (m e : Nat) (k2 : Int) (t2 : ByteArray) (A2 : Option Addr) (n2 c2 : Nat) (B2 : Option Addr) (m2 e2 : Nat)
    (hp : PathAt w ok (.mk kk tt ts ks) [.int .i64 k, .string t, .slice A n c, .slice B m e]) (hq : PathAt w ok2 (.mk kk2 tt2 ts2 ks2) [.int .i64 k2, .string t2, .slice A2 n2 c2, .slice B2 m2 e2]) :
    Calls Tryd.prog 31 #[.agg #[.int .i64 k, .string t, .slice A n c, .slice B m e], .agg #[.int .i64 k2, .string t2, .slice A2 n2 c2, .slice B2 m2 e2]] w fun e w' => e = .returned (.bool (sameP (.mk kk tt ts ks) (.mk kk2 tt2 ts2 ks2))) ∧ Below w.heap.size w w' := by
  obtain ⟨A1, c1, B1, d1, e0, -, -, hkl, hts, hks⟩ := path_cells hp
  obtain ⟨A3, c3, B3, d3, e3, -, -, hkl2, hts2, hks2⟩ := path_cells hq
  simp only [List.cons.injEq, Value.int.injEq, Value.string.injEq, Value.slice.injEq, true_and, and_true] at e0 e3
  obtain ⟨rfl, rfl, ⟨rfl, rfl, rfl⟩, rfl, rfl, rfl⟩ := e0
  obtain ⟨rfl, rfl, ⟨rfl, rfl, rfl⟩, rfl, rfl, rfl⟩ := e3
  obtain ⟨wa, hwa, HA, HNa⟩ := boxP w k t A ts.length c B ks.length e
  obtain ⟨wb, hwb, HB, HNb⟩ := boxP wa k2 t2 A2 ts2.length c2 B2 ks2.length e2
  have hza : wa.heap.size = w.heap.size + 1 := by rw [hwa]; simp
  have HHW : Aside0 ((w.alloc (.cells #[.int .i64 k, .string t, .slice A ts.length c, .slice B ks.length e] 25)).alloc (.cells #[.int .i64 k2, .string t2, .slice A2 ts2.length c2, .slice B2 ks2.length e2] 25) = wb) := ⟨by rw [hwb, hwa]⟩
  have HN1 := Aside0.mk (blk_below HNa.out HB.out)
  have HN2 := HNb
  rw [hza] at HN2
  have HB0 : Aside0 (Below w.heap.size w wb) := ⟨HA.out.trans (HB.out.mono HA.out.size)⟩
  have HTS : Aside0 (TsAt wb ok A ts) := ⟨hts.move (fun g _ hg => HB0.out.block g hg)⟩
  have HTS2 : Aside0 (TsAt wb ok2 A2 ts2) := ⟨hts2.move (fun g _ hg => HB0.out.block g hg)⟩
  have HKS := Aside0.mk (KidsAt.move (w := w) (w1 := wb) (fun g _ hg => HB0.out.block g hg) ks hks)
  have HKS2 := Aside0.mk (KidsAt.move (w := w) (w1 := wb) (fun g _ hg => HB0.out.block g hg) ks2 hks2)
  clear hwa hwb hza hp hq hts hts2 hks hks2
  have HE : Aside0 (sameP (.mk k t ts ks) (.mk k2 t2 ts2 ks2) = false) := ⟨same_no (fun h => hk (by injection h))⟩
  have n1 : (k == k2) = false := by rw [beq_eq_false_iff_ne]; exact hk
  have n2 : (k != k2) = true := by rw [bne_iff_ne]; exact hk
  clear hk
  go_enter Tryd.func31, Tryd.ntmps31
  go_upto_region 1 with (fail)
  rw [HHW.out]
  have q0 := blk_cell HN1.out 0; have q1 := blk_cell HN1.out 1; have q2 := blk_cell HN1.out 2; have q3 := blk_cell HN1.out 3; simp at q0 q1 q2 q3; have qx0 := blk_cell HN2.out 0; have qx1 := blk_cell HN2.out 1; have qx2 := blk_cell HN2.out 2; have qx3 := blk_cell HN2.out 3; simp at qx0 qx1 qx2 qx3
  go_wp2_with fail
  go_ret
  exact ⟨ret_b HE.out.symm, HB0.out⟩
set_option maxRecDepth 100000 in
set_option maxHeartbeats 8000000 in
theorem psame_t (kk kk2 : Int) (tt tt2 : ByteArray) (ts ts2 : List ByteArray) (ks ks2 : List Pth) (hk : kk = kk2) (ht : tt ≠ tt2) (w : World) (ok ok2 : Nat → Prop) (k : Int) (t : ByteArray) (A : Option Addr) (n c : Nat) (B : Option Addr) (m e : Nat) (k2 : Int) (t2 : ByteArray) (A2 : Option Addr) (n2 c2 : Nat) (B2 : Option Addr) (m2 e2 : Nat)
    (hp : PathAt w ok (.mk kk tt ts ks) [.int .i64 k, .string t, .slice A n c, .slice B m e]) (hq : PathAt w ok2 (.mk kk2 tt2 ts2 ks2) [.int .i64 k2, .string t2, .slice A2 n2 c2, .slice B2 m2 e2]) :
    Calls Tryd.prog 31 #[.agg #[.int .i64 k, .string t, .slice A n c, .slice B m e], .agg #[.int .i64 k2, .string t2, .slice A2 n2 c2, .slice B2 m2 e2]] w fun e w' => e = .returned (.bool (sameP (.mk kk tt ts ks) (.mk kk2 tt2 ts2 ks2))) ∧ Below w.heap.size w w' := by
  obtain ⟨A1, c1, B1, d1, e0, -, -, hkl, hts, hks⟩ := path_cells hp
  obtain ⟨A3, c3, B3, d3, e3, -, -, hkl2, hts2, hks2⟩ := path_cells hq
  simp only [List.cons.injEq, Value.int.injEq, Value.string.injEq, Value.slice.injEq, true_and, and_true] at e0 e3
  obtain ⟨rfl, rfl, ⟨rfl, rfl, rfl⟩, rfl, rfl, rfl⟩ := e0
  obtain ⟨rfl, rfl, ⟨rfl, rfl, rfl⟩, rfl, rfl, rfl⟩ := e3
  obtain ⟨wa, hwa, HA, HNa⟩ := boxP w k t A ts.length c B ks.length e
  obtain ⟨wb, hwb, HB, HNb⟩ := boxP wa k2 t2 A2 ts2.length c2 B2 ks2.length e2
  have hza : wa.heap.size = w.heap.size + 1 := by rw [hwa]; simp
  have HHW : Aside0 ((w.alloc (.cells #[.int .i64 k, .string t, .slice A ts.length c, .slice B ks.length e] 25)).alloc (.cells #[.int .i64 k2, .string t2, .slice A2 ts2.length c2, .slice B2 ks2.length e2] 25) = wb) := ⟨by rw [hwb, hwa]⟩
  have HN1 := Aside0.mk (blk_below HNa.out HB.out)
  have HN2 := HNb
  rw [hza] at HN2
  have HB0 : Aside0 (Below w.heap.size w wb) := ⟨HA.out.trans (HB.out.mono HA.out.size)⟩
  have HTS : Aside0 (TsAt wb ok A ts) := ⟨hts.move (fun g _ hg => HB0.out.block g hg)⟩
  have HTS2 : Aside0 (TsAt wb ok2 A2 ts2) := ⟨hts2.move (fun g _ hg => HB0.out.block g hg)⟩
  have HKS := Aside0.mk (KidsAt.move (w := w) (w1 := wb) (fun g _ hg => HB0.out.block g hg) ks hks)
  have HKS2 := Aside0.mk (KidsAt.move (w := w) (w1 := wb) (fun g _ hg => HB0.out.block g hg) ks2 hks2)
  clear hwa hwb hza hp hq hts hts2 hks hks2
  have HE : Aside0 (sameP (.mk k t ts ks) (.mk k2 t2 ts2 ks2) = false) := ⟨same_no (fun h => ht (by injection h))⟩
  obtain ⟨n1, n2⟩ := str_ne ht
  subst hk
  clear ht
  go_enter Tryd.func31, Tryd.ntmps31
  go_upto_region 1 with (fail)
  rw [HHW.out]
  have q0 := blk_cell HN1.out 0; have q1 := blk_cell HN1.out 1; have q2 := blk_cell HN1.out 2; have q3 := blk_cell HN1.out 3; simp at q0 q1 q2 q3; have qx0 := blk_cell HN2.out 0; have qx1 := blk_cell HN2.out 1; have qx2 := blk_cell HN2.out 2; have qx3 := blk_cell HN2.out 3; simp at qx0 qx1 qx2 qx3
  go_wp2_with fail
  go_ret
  exact ⟨ret_b HE.out.symm, HB0.out⟩
set_option maxRecDepth 100000 in
set_option maxHeartbeats 8000000 in
theorem psame_ts (kk kk2 : Int) (tt tt2 : ByteArray) (ts ts2 : List ByteArray) (ks ks2 : List Pth) (hk : kk = kk2) (ht : tt = tt2) (hts : ts ≠ ts2) (w : World) (ok ok2 : Nat → Prop) (k : Int) (t : ByteArray) (A : Option Addr) (n c : Nat) (B : Option Addr) (m e : Nat) (k2 : Int) (t2 : ByteArray) (A2 : Option Addr) (n2 c2 : Nat) (B2 : Option Addr) (m2 e2 : Nat)
    (hp : PathAt w ok (.mk kk tt ts ks) [.int .i64 k, .string t, .slice A n c, .slice B m e]) (hq : PathAt w ok2 (.mk kk2 tt2 ts2 ks2) [.int .i64 k2, .string t2, .slice A2 n2 c2, .slice B2 m2 e2]) :
    Calls Tryd.prog 31 #[.agg #[.int .i64 k, .string t, .slice A n c, .slice B m e], .agg #[.int .i64 k2, .string t2, .slice A2 n2 c2, .slice B2 m2 e2]] w fun e w' => e = .returned (.bool (sameP (.mk kk tt ts ks) (.mk kk2 tt2 ts2 ks2))) ∧ Below w.heap.size w w' := by
  obtain ⟨A1, c1, B1, d1, e0, -, -, hkl, hts, hks⟩ := path_cells hp
  obtain ⟨A3, c3, B3, d3, e3, -, -, hkl2, hts2, hks2⟩ := path_cells hq
  simp only [List.cons.injEq, Value.int.injEq, Value.string.injEq, Value.slice.injEq, true_and, and_true] at e0 e3
  obtain ⟨rfl, rfl, ⟨rfl, rfl, rfl⟩, rfl, rfl, rfl⟩ := e0
  obtain ⟨rfl, rfl, ⟨rfl, rfl, rfl⟩, rfl, rfl, rfl⟩ := e3
  obtain ⟨wa, hwa, HA, HNa⟩ := boxP w k t A ts.length c B ks.length e
  obtain ⟨wb, hwb, HB, HNb⟩ := boxP wa k2 t2 A2 ts2.length c2 B2 ks2.length e2
  have hza : wa.heap.size = w.heap.size + 1 := by rw [hwa]; simp
  have HHW : Aside0 ((w.alloc (.cells #[.int .i64 k, .string t, .slice A ts.length c, .slice B ks.length e] 25)).alloc (.cells #[.int .i64 k2, .string t2, .slice A2 ts2.length c2, .slice B2 ks2.length e2] 25) = wb) := ⟨by rw [hwb, hwa]⟩
  have HN1 := Aside0.mk (blk_below HNa.out HB.out)
  have HN2 := HNb
  rw [hza] at HN2
  have HB0 : Aside0 (Below w.heap.size w wb) := ⟨HA.out.trans (HB.out.mono HA.out.size)⟩
  have HTS : Aside0 (TsAt wb ok A ts) := ⟨hts.move (fun g _ hg => HB0.out.block g hg)⟩
  have HTS2 : Aside0 (TsAt wb ok2 A2 ts2) := ⟨hts2.move (fun g _ hg => HB0.out.block g hg)⟩
  have HKS := Aside0.mk (KidsAt.move (w := w) (w1 := wb) (fun g _ hg => HB0.out.block g hg) ks hks)
  have HKS2 := Aside0.mk (KidsAt.move (w := w) (w1 := wb) (fun g _ hg => HB0.out.block g hg) ks2 hks2)
  clear hwa hwb hza hp hq hts hts2 hks hks2
  have HE : Aside0 (sameP (.mk k t ts ks) (.mk k2 t2 ts2 ks2) = false) := ⟨same_no (fun h => hts (by injection h))⟩
  have CE := Aside0.mk (eqS_any ts ts2 wb ok ok2 A A2 c c2 HTS.out HTS2.out)
  rw [decide_eq_false hts] at CE
  subst hk ht
  clear hts
  go_enter Tryd.func31, Tryd.ntmps31
  go_upto_region 1 with (fail)
  rw [HHW.out]
  have q0 := blk_cell HN1.out 0; have q1 := blk_cell HN1.out 1; have q2 := blk_cell HN1.out 2; have q3 := blk_cell HN1.out 3; simp at q0 q1 q2 q3; have qx0 := blk_cell HN2.out 0; have qx1 := blk_cell HN2.out 1; have qx2 := blk_cell HN2.out 2; have qx3 := blk_cell HN2.out 3; simp at qx0 qx1 qx2 qx3
  go_wp2_with (go_at_call 63; (with_reducible refine CE.out.mono ?_); rintro e w2 ⟨rfl, hb2⟩; have HB2 := Aside0.mk (below_then HB0.out HB0.out.size hb2); have HM1 := Aside0.mk (blk_below HN1.out hb2); have HM2 := Aside0.mk (blk_below HN2.out hb2); clear q0 q1 q2 q3 qx0 qx1 qx2 qx3; have q0 := blk_cell HM1.out 0; have q1 := blk_cell HM1.out 1; have q2 := blk_cell HM1.out 2; have q3 := blk_cell HM1.out 3; simp at q0 q1 q2 q3; have qx0 := blk_cell HM2.out 0; have qx1 := blk_cell HM2.out 1; have qx2 := blk_cell HM2.out 2; have qx3 := blk_cell HM2.out 3; simp at qx0 qx1 qx2 qx3; have HW2 := Aside0.mk hb2; clear hb2)
  go_ret
  exact ⟨ret_b HE.out.symm, HB2.out⟩
set_option maxRecDepth 100000 in
set_option maxHeartbeats 8000000 in
theorem psame_go (kk kk2 : Int) (tt tt2 : ByteArray) (ts ts2 : List ByteArray) (ks ks2 : List Pth) (hk : kk = kk2) (ht : tt = tt2) (hts : ts = ts2) (ih : ∀ q ∈ ks, SameC 31 q) (w : World) (ok ok2 : Nat → Prop) (k : Int) (t : ByteArray) (A : Option Addr) (n c : Nat) (B : Option Addr) (m e : Nat) (k2 : Int) (t2 : ByteArray) (A2 : Option Addr) (n2 c2 : Nat) (B2 : Option Addr) (m2 e2 : Nat)
    (hp : PathAt w ok (.mk kk tt ts ks) [.int .i64 k, .string t, .slice A n c, .slice B m e]) (hq : PathAt w ok2 (.mk kk2 tt2 ts2 ks2) [.int .i64 k2, .string t2, .slice A2 n2 c2, .slice B2 m2 e2]) :
    Calls Tryd.prog 31 #[.agg #[.int .i64 k, .string t, .slice A n c, .slice B m e], .agg #[.int .i64 k2, .string t2, .slice A2 n2 c2, .slice B2 m2 e2]] w fun e w' => e = .returned (.bool (sameP (.mk kk tt ts ks) (.mk kk2 tt2 ts2 ks2))) ∧ Below w.heap.size w w' := by
  obtain ⟨A1, c1, B1, d1, e0, -, -, hkl, hts, hks⟩ := path_cells hp
  obtain ⟨A3, c3, B3, d3, e3, -, -, hkl2, hts2, hks2⟩ := path_cells hq
  simp only [List.cons.injEq, Value.int.injEq, Value.string.injEq, Value.slice.injEq, true_and, and_true] at e0 e3
  obtain ⟨rfl, rfl, ⟨rfl, rfl, rfl⟩, rfl, rfl, rfl⟩ := e0
  obtain ⟨rfl, rfl, ⟨rfl, rfl, rfl⟩, rfl, rfl, rfl⟩ := e3
  obtain ⟨wa, hwa, HA, HNa⟩ := boxP w k t A ts.length c B ks.length e
  obtain ⟨wb, hwb, HB, HNb⟩ := boxP wa k2 t2 A2 ts2.length c2 B2 ks2.length e2
  have hza : wa.heap.size = w.heap.size + 1 := by rw [hwa]; simp
  have HHW : Aside0 ((w.alloc (.cells #[.int .i64 k, .string t, .slice A ts.length c, .slice B ks.length e] 25)).alloc (.cells #[.int .i64 k2, .string t2, .slice A2 ts2.length c2, .slice B2 ks2.length e2] 25) = wb) := ⟨by rw [hwb, hwa]⟩
  have HN1 := Aside0.mk (blk_below HNa.out HB.out)
  have HN2 := HNb
  rw [hza] at HN2
  have HB0 : Aside0 (Below w.heap.size w wb) := ⟨HA.out.trans (HB.out.mono HA.out.size)⟩
  have HTS : Aside0 (TsAt wb ok A ts) := ⟨hts.move (fun g _ hg => HB0.out.block g hg)⟩
  have HTS2 : Aside0 (TsAt wb ok2 A2 ts2) := ⟨hts2.move (fun g _ hg => HB0.out.block g hg)⟩
  have HKS := Aside0.mk (KidsAt.move (w := w) (w1 := wb) (fun g _ hg => HB0.out.block g hg) ks hks)
  have HKS2 := Aside0.mk (KidsAt.move (w := w) (w1 := wb) (fun g _ hg => HB0.out.block g hg) ks2 hks2)
  clear hwa hwb hza hp hq hts hts2 hks hks2
  have HE : Aside0 (sameP (.mk k t ts ks) (.mk k2 t2 ts2 ks2) = sameL ks ks2) := ⟨by
    subst hk ht hts
    by_cases h : ks = ks2
    · rw [sameL_yes h, same_yes (by rw [h])]
    · rw [sameL_no h, same_no (fun hh => h (by injection hh))]⟩
  have CE := Aside0.mk (eqS_any ts ts2 wb ok ok2 A A2 c c2 HTS.out HTS2.out)
  rw [decide_eq_true hts] at CE
  have CF : Aside0 (∀ W, Below wb.heap.size wb W → Calls Tryd.prog 64 #[.slice B ks.length e, .slice B2 ks2.length e2, .func (.func 31) #[] #[]] W fun e w' => e = .returned (.bool (sameL ks ks2)) ∧ Below W.heap.size W w') := ⟨fun W hW => eqF_any ks ks2 ih W ok ok2 B B2 e e2 (KidsAt.move (w := wb) (w1 := W) (fun g _ hg => hW.block g hg) ks HKS.out) (KidsAt.move (w := wb) (w1 := W) (fun g _ hg => hW.block g hg) ks2 HKS2.out) hkl⟩
  obtain ⟨r, hr⟩ : ∃ r, sameL ks ks2 = r := ⟨_, rfl⟩
  rw [hr] at CF HE
  subst hk ht
  clear hts ih hr
  go_enter Tryd.func31, Tryd.ntmps31
  go_upto_region 1 with (fail)
  rw [HHW.out]
  have q0 := blk_cell HN1.out 0; have q1 := blk_cell HN1.out 1; have q2 := blk_cell HN1.out 2; have q3 := blk_cell HN1.out 3; simp at q0 q1 q2 q3; have qx0 := blk_cell HN2.out 0; have qx1 := blk_cell HN2.out 1; have qx2 := blk_cell HN2.out 2; have qx3 := blk_cell HN2.out 3; simp at qx0 qx1 qx2 qx3
  go_wp2_with (first
    | (go_at_call 63; (with_reducible refine CE.out.mono ?_); rintro e w2 ⟨rfl, hb2⟩; have HB2 := Aside0.mk (below_then HB0.out HB0.out.size hb2); have HM1 := Aside0.mk (blk_below HN1.out hb2); have HM2 := Aside0.mk (blk_below HN2.out hb2); clear q0 q1 q2 q3 qx0 qx1 qx2 qx3; have q0 := blk_cell HM1.out 0; have q1 := blk_cell HM1.out 1; have q2 := blk_cell HM1.out 2; have q3 := blk_cell HM1.out 3; simp at q0 q1 q2 q3; have qx0 := blk_cell HM2.out 0; have qx1 := blk_cell HM2.out 1; have qx2 := blk_cell HM2.out 2; have qx3 := blk_cell HM2.out 3; simp at qx0 qx1 qx2 qx3; have HW2 := Aside0.mk hb2; clear hb2)
    | (go_at_call 64; (with_reducible refine (CF.out _ HW2.out).mono ?_); rintro e w3 ⟨rfl, hb3⟩; have HB3 := Aside0.mk (below_then HB2.out HB2.out.size hb3); clear hb3))
  go_ret
  exact ⟨ret_b HE.out.symm, HB3.out⟩
theorem same_any : ∀ p, SameC 31 p := by
  intro p
  induction p using Pth.ind with
  | h kk tt ts ks ih =>
  intro q w ok ok2 k t A n c B m e k2 t2 A2 n2 c2 B2 m2 e2 hp hq
  obtain ⟨kk2, tt2, ts2, ks2⟩ := q
  by_cases hk : kk = kk2
  · by_cases ht : tt = tt2
    · by_cases hts : ts = ts2
      · exact psame_go kk kk2 tt tt2 ts ts2 ks ks2 hk ht hts ih w ok ok2 _ _ _ _ _ _ _ _ _ _ _ _ _ _ _ _ hp hq
      · exact psame_ts kk kk2 tt tt2 ts ts2 ks ks2 hk ht hts w ok ok2 _ _ _ _ _ _ _ _ _ _ _ _ _ _ _ _ hp hq
    · exact psame_t kk kk2 tt tt2 ts ts2 ks ks2 hk ht w ok ok2 _ _ _ _ _ _ _ _ _ _ _ _ _ _ _ _ hp hq
  · exact psame_k kk kk2 tt tt2 ts ts2 ks ks2 hk w ok ok2 _ _ _ _ _ _ _ _ _ _ _ _ _ _ _ _ hp hq
end Go.Proofs.YtbaegfjoionojaaDoor.Qy
