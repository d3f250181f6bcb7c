/- The walk of the Ring's Next. -/
import Derived.Test.YtdijaobhijmknaaRingH
set_option linter.unusedSimpArgs false
set_option linter.unusedVariables false
namespace Go.Proofs.Ytdijaobhijmknaa.Rg
open Go Go.RowKit Go.Proofs.YtdijaobhijmknaaW.PrintWords Go.Proofs.YtdijaobhijmknaaW.PrintLast Go.Proofs.YtdijaobhijmknaaW.PrintMore
attribute [local go_sem] max2_int min2_int max_two min_two

theorem next_nil (p : Tri) (col v : Int) (w : World) : Calls Try.prog 53 #[.pointer none, p.val, .int .i64 col, .int .i64 v] w fun e w' => e = .returned (.int .i64 0) ∧ Below w.heap.size w w' := by
  unfold Tri.val
  go_enter Try.func53, Try.ntmps53
  go_wp2_with fail
  go_ret
  exact ⟨rfl, (Below.refl _ _).alloc (Nat.le_refl _) _⟩
theorem next_out (b : Nat) (p : Tri) (col v : Int) (w : World) (h : col < 0 ∨ (0 ≤ col ∧ 2 < col)) : Calls Try.prog 53 #[.pointer (some ⟨b, 0, none⟩), p.val, .int .i64 col, .int .i64 v] w fun e w' => e = .returned (.int .i64 0) ∧ Below w.heap.size w w' := by
  unfold Tri.val
  rcases h with h | ⟨h, h2⟩
  · go_enter Try.func53, Try.ntmps53
    go_wp2_with fail
    go_ret
    exact ⟨rfl, (Below.refl _ _).alloc (Nat.le_refl _) _⟩
  · have h3 : 3 ≤ col := by omega
    go_enter Try.func53, Try.ntmps53
    go_wp2_with fail
    go_ret
    exact ⟨rfl, (Below.refl _ _).alloc (Nat.le_refl _) _⟩
theorem rd_map (f : Tri → Int) (ts : List Tri) (z : Tri) (i : Nat) (h : i < ts.length) : (if 0 ≤ (i : Int) ∧ (i : Int) < ((ts.map f).length : Int) then rd (ts.map f) (i : Int) else -1) = f (ts.getD i z) := by
  rw [if_pos (by rw [List.length_map]; omega), PM.rd_nat]
  rw [List.getD_eq_getElem?_getD, List.getD_eq_getElem?_getD, List.getElem?_map, List.getElem?_eq_getElem h]
  rfl
set_option maxRecDepth 100000 in
set_option maxHeartbeats 4000000 in
theorem next_0 {r : Value} (p : Tri) (v : Int) (ts : List Tri) (w : World) (hI : IsRing w r ts) (hl : ts.length ≤ 1000) :
    Calls Try.prog 53 #[r, p.val, .int .i64 0, .int .i64 v] w fun e w' => e = .returned (.int .i64 (nextT ts p 0 v)) ∧ Below w.heap.size w w' := by
  obtain ⟨b, A, c, v0, v1, v2, rfl, c0, c1, c2, c3, hr, y0, y1, y2⟩ := hI
  obtain ⟨z, hz⟩ : ∃ z : Tri, z = ⟨0, 0, 0⟩ := ⟨_, rfl⟩
  have HS := Aside0.mk (fun i (hi : i < ts.length) => nextT_step (ts := ts) (p := p) (z := z) (i := i) 0 v hi)
  have HV : Aside0 (nextT (ts.take ts.length) p 0 v = nextT ts p 0 v) := ⟨by rw [List.take_length]⟩
  have HRD := Aside0.mk (rd_map Tri.s ts z)
  obtain ⟨n, hn⟩ : ∃ n, n = ts.length := ⟨_, rfl⟩
  obtain ⟨wb, hwb, HX0, HW, HWS⟩ := boxed_world w p 54
  have HR := Aside0.mk (Kd.C_below hr HW.out)
  have hlt0 := World.block_lt_of_cell? w _ c0
  have d3 := (HW.out.cell (p := ⟨b, 3, none⟩) hlt0).trans c3
  have HDK := Aside0.mk ((HW.out.cell (p := ⟨b, 0, none⟩) hlt0).trans c0)
  have HWV := Aside0.mk (y0.below HW.out)
  have hlm : (ts.map Tri.s).length ≤ 1000 := by rw [List.length_map]; exact hl
  have CA := Aside0.mk (fun W (h : Wv.IsWave W v0 (ts.map Tri.s)) (i : Nat) => Wv.access_any h (i : Int) hlm)
  rw [← hn] at HR hl HS HV HRD d3
  have HM := Aside0.mk (fun t W => matches_any p t W)
  rw [hwb] at d3
  have HWB := Aside0.mk hwb
  clear hr hz hn hwb c0 c1 c2 c3 y0 y1 y2 hlt0 hlm
  unfold Tri.val
  go_enter Try.func53, Try.ntmps53
  go_wp2_with fail
  go_loopw [9, 28] (fun y x wr => ∃ (i : Nat) (bb : Int), i ≤ n ∧ x = .int .i64 i ∧ y = .int .i64 bb ∧ Aside0 (bb = nextT (ts.take i) p 0 v) ∧ Aside0 (Below wb.heap.size wb wr)) (fun _ x _ => n - (intOf x).toNat)
  case atStart => exact ⟨0, 0, by omega, rfl, rfl, ⟨rfl⟩, ⟨by rw [← HWB.out]; exact Below.refl _ _⟩⟩
  case round =>
    clear HWB d3
    obtain ⟨i, bb, hi, rfl, rfl, HE, HB⟩ := hrel
    by_cases hlt : i < n
    · obtain ⟨ad, rfl, k0, k1, k2⟩ := at3_of (Kd.C_below HR.out HB.out) i hlt z
      have hs := HS.out i hlt
      have hrd := HRD.out i hlt
      rw [← HE.out] at hs
      obtain ⟨t, ht⟩ : ∃ t, t = ts.getD i z := ⟨_, rfl⟩
      rw [← ht] at k0 k1 k2 hs hrd
      have HSS := Aside0.mk hs
      obtain ⟨wc, hwc, HY0, HC, HCS⟩ := boxed_world wr t 54
      have HBC := Aside0.mk (below_two' HB.out HC.out)
      have CAW := CA.out wc ((HWV.out.below HB.out).below HC.out) i
      rw [hrd] at CAW
      have CAW := Aside0.mk CAW
      have CMW := Aside0.mk (HM.out t wc)
      unfold Tri.val at CMW
      obtain ⟨x0, x1, x2⟩ := (HX0.out.below HB.out).below HC.out
      obtain ⟨t0, t1, t2⟩ := HY0.out
      have hlb := World.block_lt_of_cell? wb _ HDK.out
      have dk := ((HBC.out.cell (p := ⟨b, 0, none⟩) hlb).trans HDK.out)
      have hi2 : (0 : Int) ≤ (i : Int) := by omega
      have hi3 : (i : Int) < (n : Int) := by omega
      rw [hwc] at CAW CMW x0 x1 x2 t0 t1 t2 dk HBC
      clear ht hs hrd hwc hlb
      rcases better_case p t v bb 0 with ⟨g1, g⟩ | ⟨g1, g2, g⟩ | ⟨g1, g2, g3, g⟩ | ⟨g1, g2, g3, g4, g⟩ | ⟨g1, g2, g3, g4, g⟩
      · rw [g] at HSS
        rw [g1] at CMW
        clear g1 g
        go_wp2_with (first
          | (go_at_call 40; (with_reducible refine CAW.out.mono ?_); rintro e w3 ⟨rfl, rfl⟩)
          | (go_at_call 73; (with_reducible refine CMW.out.mono ?_); rintro e w3 ⟨rfl, hb⟩; have HB3 := Aside0.mk (below_step HBC.out hb); clear hb))
        go_roundw
        case rel => exact ⟨i + 1, _, by omega, by go_num, rfl, ⟨HSS.out.symm⟩, HB3⟩
        case measure => simp [intOf]; omega
      · change decide (v ≤ t.s) = false at g2
        rw [g] at HSS
        rw [g1] at CMW
        clear g1 g
        go_wp2_with (first
          | (go_at_call 40; (with_reducible refine CAW.out.mono ?_); rintro e w3 ⟨rfl, rfl⟩)
          | (go_at_call 73; (with_reducible refine CMW.out.mono ?_); rintro e w3 ⟨rfl, hb⟩; have HB3 := Aside0.mk (below_step HBC.out hb); clear hb))
        go_roundw
        case rel => exact ⟨i + 1, _, by omega, by go_num, rfl, ⟨HSS.out.symm⟩, HB3⟩
        case measure => simp [intOf]; omega
      · change v ≤ t.s at g2
        change betterT p v 0 bb t = t.s at g
        rw [g] at HSS
        rw [g1] at CMW
        clear g1 g
        go_wp2_with (first
          | (go_at_call 40; (with_reducible refine CAW.out.mono ?_); rintro e w3 ⟨rfl, rfl⟩)
          | (go_at_call 73; (with_reducible refine CMW.out.mono ?_); rintro e w3 ⟨rfl, hb⟩; have HB3 := Aside0.mk (below_step HBC.out hb); clear hb))
        go_roundw
        case rel => exact ⟨i + 1, _, by omega, by go_num, rfl, ⟨HSS.out.symm⟩, HB3⟩
        case measure => simp [intOf]; omega
      · change v ≤ t.s at g2
        change t.s < bb at g4
        change betterT p v 0 bb t = t.s at g
        rw [g] at HSS
        rw [g1] at CMW
        clear g1 g
        go_wp2_with (first
          | (go_at_call 40; (with_reducible refine CAW.out.mono ?_); rintro e w3 ⟨rfl, rfl⟩)
          | (go_at_call 73; (with_reducible refine CMW.out.mono ?_); rintro e w3 ⟨rfl, hb⟩; have HB3 := Aside0.mk (below_step HBC.out hb); clear hb))
        go_roundw
        case rel => exact ⟨i + 1, _, by omega, by go_num, rfl, ⟨HSS.out.symm⟩, HB3⟩
        case measure => simp [intOf]; omega
      · change v ≤ t.s at g2
        change decide (t.s < bb) = false at g4
        rw [g] at HSS
        rw [g1] at CMW
        clear g1 g
        go_wp2_with (first
          | (go_at_call 40; (with_reducible refine CAW.out.mono ?_); rintro e w3 ⟨rfl, rfl⟩)
          | (go_at_call 73; (with_reducible refine CMW.out.mono ?_); rintro e w3 ⟨rfl, hb⟩; have HB3 := Aside0.mk (below_step HBC.out hb); clear hb))
        go_roundw
        case rel => exact ⟨i + 1, _, by omega, by go_num, rfl, ⟨HSS.out.symm⟩, HB3⟩
        case measure => simp [intOf]; omega
    · have hin : i = n := by omega
      subst hin
      have HF := Aside0.mk (HE.out.trans HV.out)
      clear HE
      go_wp2_with fail
      go_ret
      exact ⟨ret_i64 HF.out, below_two' HW.out HB.out⟩
set_option maxRecDepth 100000 in
set_option maxHeartbeats 4000000 in
theorem next_1 {r : Value} (p : Tri) (v : Int) (ts : List Tri) (w : World) (hI : IsRing w r ts) (hl : ts.length ≤ 1000) :
    Calls Try.prog 53 #[r, p.val, .int .i64 1, .int .i64 v] w fun e w' => e = .returned (.int .i64 (nextT ts p 1 v)) ∧ Below w.heap.size w w' := by
  obtain ⟨b, A, c, v0, v1, v2, rfl, c0, c1, c2, c3, hr, y0, y1, y2⟩ := hI
  obtain ⟨z, hz⟩ : ∃ z : Tri, z = ⟨0, 0, 0⟩ := ⟨_, rfl⟩
  have HS := Aside0.mk (fun i (hi : i < ts.length) => nextT_step (ts := ts) (p := p) (z := z) (i := i) 1 v hi)
  have HV : Aside0 (nextT (ts.take ts.length) p 1 v = nextT ts p 1 v) := ⟨by rw [List.take_length]⟩
  have HRD := Aside0.mk (rd_map Tri.p ts z)
  obtain ⟨n, hn⟩ : ∃ n, n = ts.length := ⟨_, rfl⟩
  obtain ⟨wb, hwb, HX0, HW, HWS⟩ := boxed_world w p 54
  have HR := Aside0.mk (Kd.C_below hr HW.out)
  have hlt0 := World.block_lt_of_cell? w _ c0
  have d3 := (HW.out.cell (p := ⟨b, 3, none⟩) hlt0).trans c3
  have HDK := Aside0.mk ((HW.out.cell (p := ⟨b, 1, none⟩) hlt0).trans c1)
  have HWV := Aside0.mk (y1.below HW.out)
  have hlm : (ts.map Tri.p).length ≤ 1000 := by rw [List.length_map]; exact hl
  have CA := Aside0.mk (fun W (h : Wv.IsWave W v1 (ts.map Tri.p)) (i : Nat) => Wv.access_any h (i : Int) hlm)
  rw [← hn] at HR hl HS HV HRD d3
  have HM := Aside0.mk (fun t W => matches_any p t W)
  rw [hwb] at d3
  have HWB := Aside0.mk hwb
  clear hr hz hn hwb c0 c1 c2 c3 y0 y1 y2 hlt0 hlm
  unfold Tri.val
  go_enter Try.func53, Try.ntmps53
  go_wp2_with fail
  go_loopw [9, 28] (fun y x wr => ∃ (i : Nat) (bb : Int), i ≤ n ∧ x = .int .i64 i ∧ y = .int .i64 bb ∧ Aside0 (bb = nextT (ts.take i) p 1 v) ∧ Aside0 (Below wb.heap.size wb wr)) (fun _ x _ => n - (intOf x).toNat)
  case atStart => exact ⟨0, 0, by omega, rfl, rfl, ⟨rfl⟩, ⟨by rw [← HWB.out]; exact Below.refl _ _⟩⟩
  case round =>
    clear HWB d3
    obtain ⟨i, bb, hi, rfl, rfl, HE, HB⟩ := hrel
    by_cases hlt : i < n
    · obtain ⟨ad, rfl, k0, k1, k2⟩ := at3_of (Kd.C_below HR.out HB.out) i hlt z
      have hs := HS.out i hlt
      have hrd := HRD.out i hlt
      rw [← HE.out] at hs
      obtain ⟨t, ht⟩ : ∃ t, t = ts.getD i z := ⟨_, rfl⟩
      rw [← ht] at k0 k1 k2 hs hrd
      have HSS := Aside0.mk hs
      obtain ⟨wc, hwc, HY0, HC, HCS⟩ := boxed_world wr t 54
      have HBC := Aside0.mk (below_two' HB.out HC.out)
      have CAW := CA.out wc ((HWV.out.below HB.out).below HC.out) i
      rw [hrd] at CAW
      have CAW := Aside0.mk CAW
      have CMW := Aside0.mk (HM.out t wc)
      unfold Tri.val at CMW
      obtain ⟨x0, x1, x2⟩ := (HX0.out.below HB.out).below HC.out
      obtain ⟨t0, t1, t2⟩ := HY0.out
      have hlb := World.block_lt_of_cell? wb _ HDK.out
      have dk := ((HBC.out.cell (p := ⟨b, 1, none⟩) hlb).trans HDK.out)
      have hi2 : (0 : Int) ≤ (i : Int) := by omega
      have hi3 : (i : Int) < (n : Int) := by omega
      rw [hwc] at CAW CMW x0 x1 x2 t0 t1 t2 dk HBC
      clear ht hs hrd hwc hlb
      rcases better_case p t v bb 1 with ⟨g1, g⟩ | ⟨g1, g2, g⟩ | ⟨g1, g2, g3, g⟩ | ⟨g1, g2, g3, g4, g⟩ | ⟨g1, g2, g3, g4, g⟩
      · rw [g] at HSS
        rw [g1] at CMW
        clear g1 g
        go_wp2_with (first
          | (go_at_call 40; (with_reducible refine CAW.out.mono ?_); rintro e w3 ⟨rfl, rfl⟩)
          | (go_at_call 73; (with_reducible refine CMW.out.mono ?_); rintro e w3 ⟨rfl, hb⟩; have HB3 := Aside0.mk (below_step HBC.out hb); clear hb))
        go_roundw
        case rel => exact ⟨i + 1, _, by omega, by go_num, rfl, ⟨HSS.out.symm⟩, HB3⟩
        case measure => simp [intOf]; omega
      · change decide (v ≤ t.p) = false at g2
        rw [g] at HSS
        rw [g1] at CMW
        clear g1 g
        go_wp2_with (first
          | (go_at_call 40; (with_reducible refine CAW.out.mono ?_); rintro e w3 ⟨rfl, rfl⟩)
          | (go_at_call 73; (with_reducible refine CMW.out.mono ?_); rintro e w3 ⟨rfl, hb⟩; have HB3 := Aside0.mk (below_step HBC.out hb); clear hb))
        go_roundw
        case rel => exact ⟨i + 1, _, by omega, by go_num, rfl, ⟨HSS.out.symm⟩, HB3⟩
        case measure => simp [intOf]; omega
      · change v ≤ t.p at g2
        change betterT p v 1 bb t = t.p at g
        rw [g] at HSS
        rw [g1] at CMW
        clear g1 g
        go_wp2_with (first
          | (go_at_call 40; (with_reducible refine CAW.out.mono ?_); rintro e w3 ⟨rfl, rfl⟩)
          | (go_at_call 73; (with_reducible refine CMW.out.mono ?_); rintro e w3 ⟨rfl, hb⟩; have HB3 := Aside0.mk (below_step HBC.out hb); clear hb))
        go_roundw
        case rel => exact ⟨i + 1, _, by omega, by go_num, rfl, ⟨HSS.out.symm⟩, HB3⟩
        case measure => simp [intOf]; omega
      · change v ≤ t.p at g2
        change t.p < bb at g4
        change betterT p v 1 bb t = t.p at g
        rw [g] at HSS
        rw [g1] at CMW
        clear g1 g
        go_wp2_with (first
          | (go_at_call 40; (with_reducible refine CAW.out.mono ?_); rintro e w3 ⟨rfl, rfl⟩)
          | (go_at_call 73; (with_reducible refine CMW.out.mono ?_); rintro e w3 ⟨rfl, hb⟩; have HB3 := Aside0.mk (below_step HBC.out hb); clear hb))
        go_roundw
        case rel => exact ⟨i + 1, _, by omega, by go_num, rfl, ⟨HSS.out.symm⟩, HB3⟩
        case measure => simp [intOf]; omega
      · change v ≤ t.p at g2
        change decide (t.p < bb) = false at g4
        rw [g] at HSS
        rw [g1] at CMW
        clear g1 g
        go_wp2_with (first
          | (go_at_call 40; (with_reducible refine CAW.out.mono ?_); rintro e w3 ⟨rfl, rfl⟩)
          | (go_at_call 73; (with_reducible refine CMW.out.mono ?_); rintro e w3 ⟨rfl, hb⟩; have HB3 := Aside0.mk (below_step HBC.out hb); clear hb))
        go_roundw
        case rel => exact ⟨i + 1, _, by omega, by go_num, rfl, ⟨HSS.out.symm⟩, HB3⟩
        case measure => simp [intOf]; omega
    · have hin : i = n := by omega
      subst hin
      have HF := Aside0.mk (HE.out.trans HV.out)
      clear HE
      go_wp2_with fail
      go_ret
      exact ⟨ret_i64 HF.out, below_two' HW.out HB.out⟩
set_option maxRecDepth 100000 in
set_option maxHeartbeats 4000000 in
theorem next_2 {r : Value} (p : Tri) (v : Int) (ts : List Tri) (w : World) (hI : IsRing w r ts) (hl : ts.length ≤ 1000) :
    Calls Try.prog 53 #[r, p.val, .int .i64 2, .int .i64 v] w fun e w' => e = .returned (.int .i64 (nextT ts p 2 v)) ∧ Below w.heap.size w w' := by
  obtain ⟨b, A, c, v0, v1, v2, rfl, c0, c1, c2, c3, hr, y0, y1, y2⟩ := hI
  obtain ⟨z, hz⟩ : ∃ z : Tri, z = ⟨0, 0, 0⟩ := ⟨_, rfl⟩
  have HS := Aside0.mk (fun i (hi : i < ts.length) => nextT_step (ts := ts) (p := p) (z := z) (i := i) 2 v hi)
  have HV : Aside0 (nextT (ts.take ts.length) p 2 v = nextT ts p 2 v) := ⟨by rw [List.take_length]⟩
  have HRD := Aside0.mk (rd_map Tri.o ts z)
  obtain ⟨n, hn⟩ : ∃ n, n = ts.length := ⟨_, rfl⟩
  obtain ⟨wb, hwb, HX0, HW, HWS⟩ := boxed_world w p 54
  have HR := Aside0.mk (Kd.C_below hr HW.out)
  have hlt0 := World.block_lt_of_cell? w _ c0
  have d3 := (HW.out.cell (p := ⟨b, 3, none⟩) hlt0).trans c3
  have HDK := Aside0.mk ((HW.out.cell (p := ⟨b, 2, none⟩) hlt0).trans c2)
  have HWV := Aside0.mk (y2.below HW.out)
  have hlm : (ts.map Tri.o).length ≤ 1000 := by rw [List.length_map]; exact hl
  have CA := Aside0.mk (fun W (h : Wv.IsWave W v2 (ts.map Tri.o)) (i : Nat) => Wv.access_any h (i : Int) hlm)
  rw [← hn] at HR hl HS HV HRD d3
  have HM := Aside0.mk (fun t W => matches_any p t W)
  rw [hwb] at d3
  have HWB := Aside0.mk hwb
  clear hr hz hn hwb c0 c1 c2 c3 y0 y1 y2 hlt0 hlm
  unfold Tri.val
  go_enter Try.func53, Try.ntmps53
  go_wp2_with fail
  go_loopw [9, 28] (fun y x wr => ∃ (i : Nat) (bb : Int), i ≤ n ∧ x = .int .i64 i ∧ y = .int .i64 bb ∧ Aside0 (bb = nextT (ts.take i) p 2 v) ∧ Aside0 (Below wb.heap.size wb wr)) (fun _ x _ => n - (intOf x).toNat)
  case atStart => exact ⟨0, 0, by omega, rfl, rfl, ⟨rfl⟩, ⟨by rw [← HWB.out]; exact Below.refl _ _⟩⟩
  case round =>
    clear HWB d3
    obtain ⟨i, bb, hi, rfl, rfl, HE, HB⟩ := hrel
    by_cases hlt : i < n
    · obtain ⟨ad, rfl, k0, k1, k2⟩ := at3_of (Kd.C_below HR.out HB.out) i hlt z
      have hs := HS.out i hlt
      have hrd := HRD.out i hlt
      rw [← HE.out] at hs
      obtain ⟨t, ht⟩ : ∃ t, t = ts.getD i z := ⟨_, rfl⟩
      rw [← ht] at k0 k1 k2 hs hrd
      have HSS := Aside0.mk hs
      obtain ⟨wc, hwc, HY0, HC, HCS⟩ := boxed_world wr t 54
      have HBC := Aside0.mk (below_two' HB.out HC.out)
      have CAW := CA.out wc ((HWV.out.below HB.out).below HC.out) i
      rw [hrd] at CAW
      have CAW := Aside0.mk CAW
      have CMW := Aside0.mk (HM.out t wc)
      unfold Tri.val at CMW
      obtain ⟨x0, x1, x2⟩ := (HX0.out.below HB.out).below HC.out
      obtain ⟨t0, t1, t2⟩ := HY0.out
      have hlb := World.block_lt_of_cell? wb _ HDK.out
      have dk := ((HBC.out.cell (p := ⟨b, 2, none⟩) hlb).trans HDK.out)
      have hi2 : (0 : Int) ≤ (i : Int) := by omega
      have hi3 : (i : Int) < (n : Int) := by omega
      rw [hwc] at CAW CMW x0 x1 x2 t0 t1 t2 dk HBC
      clear ht hs hrd hwc hlb
      rcases better_case p t v bb 2 with ⟨g1, g⟩ | ⟨g1, g2, g⟩ | ⟨g1, g2, g3, g⟩ | ⟨g1, g2, g3, g4, g⟩ | ⟨g1, g2, g3, g4, g⟩
      · rw [g] at HSS
        rw [g1] at CMW
        clear g1 g
        go_wp2_with (first
          | (go_at_call 40; (with_reducible refine CAW.out.mono ?_); rintro e w3 ⟨rfl, rfl⟩)
          | (go_at_call 73; (with_reducible refine CMW.out.mono ?_); rintro e w3 ⟨rfl, hb⟩; have HB3 := Aside0.mk (below_step HBC.out hb); clear hb))
        go_roundw
        case rel => exact ⟨i + 1, _, by omega, by go_num, rfl, ⟨HSS.out.symm⟩, HB3⟩
        case measure => simp [intOf]; omega
      · change decide (v ≤ t.o) = false at g2
        rw [g] at HSS
        rw [g1] at CMW
        clear g1 g
        go_wp2_with (first
          | (go_at_call 40; (with_reducible refine CAW.out.mono ?_); rintro e w3 ⟨rfl, rfl⟩)
          | (go_at_call 73; (with_reducible refine CMW.out.mono ?_); rintro e w3 ⟨rfl, hb⟩; have HB3 := Aside0.mk (below_step HBC.out hb); clear hb))
        go_roundw
        case rel => exact ⟨i + 1, _, by omega, by go_num, rfl, ⟨HSS.out.symm⟩, HB3⟩
        case measure => simp [intOf]; omega
      · change v ≤ t.o at g2
        change betterT p v 2 bb t = t.o at g
        rw [g] at HSS
        rw [g1] at CMW
        clear g1 g
        go_wp2_with (first
          | (go_at_call 40; (with_reducible refine CAW.out.mono ?_); rintro e w3 ⟨rfl, rfl⟩)
          | (go_at_call 73; (with_reducible refine CMW.out.mono ?_); rintro e w3 ⟨rfl, hb⟩; have HB3 := Aside0.mk (below_step HBC.out hb); clear hb))
        go_roundw
        case rel => exact ⟨i + 1, _, by omega, by go_num, rfl, ⟨HSS.out.symm⟩, HB3⟩
        case measure => simp [intOf]; omega
      · change v ≤ t.o at g2
        change t.o < bb at g4
        change betterT p v 2 bb t = t.o at g
        rw [g] at HSS
        rw [g1] at CMW
        clear g1 g
        go_wp2_with (first
          | (go_at_call 40; (with_reducible refine CAW.out.mono ?_); rintro e w3 ⟨rfl, rfl⟩)
          | (go_at_call 73; (with_reducible refine CMW.out.mono ?_); rintro e w3 ⟨rfl, hb⟩; have HB3 := Aside0.mk (below_step HBC.out hb); clear hb))
        go_roundw
        case rel => exact ⟨i + 1, _, by omega, by go_num, rfl, ⟨HSS.out.symm⟩, HB3⟩
        case measure => simp [intOf]; omega
      · change v ≤ t.o at g2
        change decide (t.o < bb) = false at g4
        rw [g] at HSS
        rw [g1] at CMW
        clear g1 g
        go_wp2_with (first
          | (go_at_call 40; (with_reducible refine CAW.out.mono ?_); rintro e w3 ⟨rfl, rfl⟩)
          | (go_at_call 73; (with_reducible refine CMW.out.mono ?_); rintro e w3 ⟨rfl, hb⟩; have HB3 := Aside0.mk (below_step HBC.out hb); clear hb))
        go_roundw
        case rel => exact ⟨i + 1, _, by omega, by go_num, rfl, ⟨HSS.out.symm⟩, HB3⟩
        case measure => simp [intOf]; omega
    · have hin : i = n := by omega
      subst hin
      have HF := Aside0.mk (HE.out.trans HV.out)
      clear HE
      go_wp2_with fail
      go_ret
      exact ⟨ret_i64 HF.out, below_two' HW.out HB.out⟩
theorem next_any {r : Value} (p : Tri) (col v : Int) (ts : List Tri) (w : World) (hI : IsRing w r ts) (hl : ts.length ≤ 1000) :
    Calls Try.prog 53 #[r, p.val, .int .i64 col, .int .i64 v] w fun e w' => e = .returned (.int .i64 (nextC ts p col v)) ∧ Below w.heap.size w w' := by
  unfold nextC
  by_cases h : 0 ≤ col ∧ col ≤ 2
  · rw [if_pos h]
    have h3 : col = 0 ∨ col = 1 ∨ col = 2 := by omega
    rcases h3 with rfl | rfl | rfl
    · exact next_0 p v ts w hI hl
    · exact next_1 p v ts w hI hl
    · exact next_2 p v ts w hI hl
  · rw [if_neg h]
    obtain ⟨b, A, c, v0, v1, v2, rfl, _⟩ := hI
    exact next_out b p col v w (by omega)
end Go.Proofs.Ytdijaobhijmknaa.Rg
