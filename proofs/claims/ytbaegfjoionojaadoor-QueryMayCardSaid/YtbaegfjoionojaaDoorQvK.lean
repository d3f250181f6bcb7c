/- The walk of the reference's Is. -/
import Derived.Test.YtbaegfjoionojaaDoorQvJ
import Derived.Test.YtbaegfjoionojaaDoorQvE
import Derived.Test.YtbaegfjoionojaaDoorQvG
set_option linter.unusedSimpArgs false
set_option linter.unusedVariables false
namespace Go.Proofs.YtbaegfjoionojaaDoor.Qy
open Go Go.RowKit Go.Proofs.YtbaegfjoionojaaDoor.Tm Go.Proofs.YtbaegfjoionojaaDoorW.PrintWords

theorem no_p {w w' : World} {P : Prop} (h : ¬ P) (hb : Below w.heap.size w w') : AreP w P (.returned (.bool false)) w' := ⟨false, rfl, ⟨fun h => (by cases h), fun h2 => absurd h2 h⟩, hb⟩
theorem yes_p {w w' : World} {P : Prop} (h : P) (hb : Below w.heap.size w w') : AreP w P (.returned (.bool true)) w' := ⟨true, rfl, ⟨fun _ => h, fun _ => rfl⟩, hb⟩
set_option maxRecDepth 100000 in
set_option maxHeartbeats 8000000 in
theorem refIs_rest (ask : Bool) (ps : List Pat) (fs : List Fil) (vs : List ByteArray) (lim off : Int) (P : Prop) (w wb : World) (hpp : IsQ ⟨ask, vs, ps, fs, lim, off⟩ = P) (hB : Below w.heap.size w wb) (A : Option Addr) (c : Nat) (B : Option Addr) (c' : Nat) (D : Option Addr) (d : Nat)
    (hN : wb.heap[w.heap.size]? = some (.cells #[.bool ask, .slice A vs.length c, .slice B ps.length c', .slice D fs.length d, .int .i64 lim, .int .i64 off] 68 (0, 0))) (hhw : w.alloc (.cells #[.bool ask, .slice A vs.length c, .slice B ps.length c', .slice D fs.length d, .int .i64 lim, .int .i64 off] 68) = wb)
    (hts : TsAt wb anyB A vs) (hps : RowAt wb B 12 ps (PatAt wb)) (hfs : RowAt wb D 3 fs FilAt) (hnr : ∀ p ∈ ps, NarP p) (hip : IsC 24) (hT : Tabs wb) (hc : vs.length ≤ c) (hn1 : ps.length ≤ 20) (hn2 : fs.length ≤ 20) (hn3 : vs.length ≤ 20)
    (hp1 : ¬ ps.length < 1) (hp4 : ¬ 4 < ps.length) (hf3 : ¬ 3 < fs.length) (hl1 : ¬ lim < -1) (hl2 : ¬ 1000 < lim) (ho1 : ¬ off < 0) (ho2 : ¬ 1000 < off) (hav : ask = true → vs.length = 0) :
    Calls Tryd.prog 51 #[.agg #[.bool ask, .slice A vs.length c, .slice B ps.length c', .slice D fs.length d, .int .i64 lim, .int .i64 off]] w (AreP w P) := by
  have HPP := Aside0.mk hpp
  have HB := Aside0.mk hB
  have HN := Aside0.mk hN
  have HHW := Aside0.mk hhw
  have HTS := Aside0.mk hts
  have HPS := Aside0.mk hps
  have HFS := Aside0.mk hfs
  have HNR := Aside0.mk hnr
  have HIP := Aside0.mk hip
  have HTb := Aside0.mk hT
  have HAV := Aside0.mk hav
  have n0 : decide ((ps.length : Int) < (1 : Int)) = false := by rw [decide_eq_false_iff_not]; omega
  have n1 : decide ((4 : Int) < (ps.length : Int)) = false := by rw [decide_eq_false_iff_not]; omega
  have n2 : decide ((3 : Int) < (fs.length : Int)) = false := by rw [decide_eq_false_iff_not]; omega
  have n3 : decide (lim < (-1 : Int)) = false := by rw [decide_eq_false_iff_not]; omega
  have n4 : decide ((1000 : Int) < lim) = false := by rw [decide_eq_false_iff_not]; omega
  have n5 : decide (off < (0 : Int)) = false := by rw [decide_eq_false_iff_not]; omega
  have n6 : decide ((1000 : Int) < off) = false := by rw [decide_eq_false_iff_not]; omega
  have CVA := Aside0.mk (fun (W : World) (h : Below wb.heap.size wb W) => refVars_any ⟨ask, vs, ps, fs, lim, off⟩ W A c B c' D d (hps.below h (fun a cs h2 => h2.below h)) (by show ps.length ≤ 1000; omega))
  have hm : ask = true → decide ((0 : Int) < (vs.length : Int)) = false ∧ decide (0 < vs.length) = false := fun h => ⟨by have := hav h; rw [decide_eq_false_iff_not]; omega, by have := hav h; rw [decide_eq_false_iff_not]; omega⟩
  clear hpp hB hN hhw hts hps hfs hnr hip hT hav
  cases ask
  all_goals
    have hm2 := hm
    clear hm
    try obtain ⟨m1, m1n⟩ := hm2 rfl
    go_enter Tryd.func51, Tryd.ntmps51
    go_upto_region 1 with (fail)
    rw [HHW.out]
    have q1 := blk_cell HN.out 1; have q2 := blk_cell HN.out 2; have q3 := blk_cell HN.out 3; have q4 := blk_cell HN.out 4; have q5 := blk_cell HN.out 5; have q0 := blk_cell HN.out 0; simp at q0 q1 q2 q3 q4 q5
    go_wp2_with fail
    clear n0 n1 n2 n3 n4 n5 n6 hm2 q0 q1 q2 q3 q4 q5
    try clear m1 m1n
    go_loopw [3] (fun u wr => ∃ i : Nat, i ≤ ps.length ∧ u = .int .i64 i ∧ Aside0 (∀ (j : Nat) p, j < i → ps[j]? = some p → endB p.s = true ∧ endB p.o = true ∧ isP p.p = true) ∧ Aside0 (Below wb.heap.size wb wr)) (fun u _ => ps.length - (intOf u).toNat)
    case atStart => exact ⟨0, by omega, rfl, ⟨fun j p h => by omega⟩, ⟨Below.refl _ _⟩⟩
    case round =>
      obtain ⟨wv, rfl⟩ : ∃ x, x = wr := ⟨wr, rfl⟩
      obtain ⟨i, hi, rfl, HJ, HBv⟩ := hrel
      have q1 := blk_cell (blk_below HN.out HBv.out) 1; have q2 := blk_cell (blk_below HN.out HBv.out) 2; have q3 := blk_cell (blk_below HN.out HBv.out) 3; have q4 := blk_cell (blk_below HN.out HBv.out) 4; have q5 := blk_cell (blk_below HN.out HBv.out) 5; have q0 := blk_cell (blk_below HN.out HBv.out) 0; simp at q0 q1 q2 q3 q4 q5
      by_cases hin : i < ps.length
      · obtain ⟨p, hp⟩ : ∃ p, ps[i]? = some p := ⟨ps[i]'hin, List.getElem?_eq_getElem _⟩
        obtain ⟨pb, po, cs, rfl, hcl, hpa⟩ := HPS.out.below HBv.out (fun a cs h => h.below HBv.out) i p hp
        obtain ⟨k, t, A5, n5, c5, B5, m5, d5, hpp, rfl⟩ := pat_cells hpa
        have hnp := HNR.out p (List.mem_of_getElem? hp)
        obtain ⟨⟨s1, s2, s3⟩, s4, s5, s6⟩ := nar_sizes hnp
        have hbg := hnp.1
        obtain ⟨⟨v1, ⟨k1, t1, x1⟩⟩, pp, ⟨v2, ⟨k2, t2, x2⟩⟩⟩ := p
        simp only at hpp hcl s1 s2 s3 s4 s5 s6 hbg
        have a0 := hcl 0 _ rfl
        have a1 := hcl 1 _ rfl
        have a2 := hcl 2 _ rfl
        have a3 := hcl 3 _ rfl
        have a4 := hcl 4 _ rfl
        have a5 := hcl 5 _ rfl
        have a6 := hcl 6 _ rfl
        have a7 := hcl 7 _ rfl
        have a8 := hcl 8 _ rfl
        have a9 := hcl 9 _ rfl
        have a10 := hcl 10 _ rfl
        have a11 := hcl 11 _ rfl
        simp only [Nat.add_zero] at a0
        have g0 : (0 : Int) ≤ (i : Int) := by omega
        have g1 : (i : Int) < (ps.length : Int) := by omega
        obtain ⟨wy, hwy, HY, HNy, hsy⟩ := boxO wv #[.string v1, .int .i64 k1, .string t1, .string x1, .int .i64 k, .string t, .slice A5 n5 c5, .slice B5 m5 d5, .string v2, .int .i64 k2, .string t2, .string x2] 78
        have HHY := Aside0.mk hwy.symm
        have HZ : Aside0 (∀ W, Below wy.heap.size wy W → W.cell? ⟨wv.heap.size, 0, none⟩ = some (.string v1) ∧ W.cell? ⟨wv.heap.size, 1, none⟩ = some (.int .i64 k1) ∧ W.cell? ⟨wv.heap.size, 2, none⟩ = some (.string t1) ∧ W.cell? ⟨wv.heap.size, 3, none⟩ = some (.string x1) ∧ W.cell? ⟨wv.heap.size, 4, none⟩ = some (.int .i64 k) ∧ W.cell? ⟨wv.heap.size, 5, none⟩ = some (.string t) ∧ W.cell? ⟨wv.heap.size, 6, none⟩ = some (.slice A5 n5 c5) ∧ W.cell? ⟨wv.heap.size, 7, none⟩ = some (.slice B5 m5 d5) ∧ W.cell? ⟨wv.heap.size, 8, none⟩ = some (.string v2) ∧ W.cell? ⟨wv.heap.size, 9, none⟩ = some (.int .i64 k2) ∧ W.cell? ⟨wv.heap.size, 10, none⟩ = some (.string t2) ∧ W.cell? ⟨wv.heap.size, 11, none⟩ = some (.string x2)) := ⟨fun W h => pat12 (blk_below HNy.out h)⟩
        have HB0 : Aside0 (Below wy.heap.size wy wy) := ⟨Below.refl _ _⟩
        have HBy := Aside0.mk (below_then HBv.out HBv.out.size HY.out)
        have hTy := HTb.out.below HBy.out
        have C1 : Aside0 (∀ W, Below wy.heap.size wy W → Calls Tryd.prog 82 #[.agg #[.string v1, .int .i64 k1, .string t1, .string x1]] W fun e w' => e = .returned (.bool (endB ⟨v1, ⟨k1, t1, x1⟩⟩)) ∧ Below W.heap.size W w') := ⟨fun W h => refEnd_any ⟨v1, ⟨k1, t1, x1⟩⟩ s1 s2 s3 W (hTy.below h)⟩
        have C2 : Aside0 (∀ W, Below wy.heap.size wy W → Calls Tryd.prog 82 #[.agg #[.string v2, .int .i64 k2, .string t2, .string x2]] W fun e w' => e = .returned (.bool (endB ⟨v2, ⟨k2, t2, x2⟩⟩)) ∧ Below W.heap.size W w') := ⟨fun W h => refEnd_any ⟨v2, ⟨k2, t2, x2⟩⟩ s4 s5 s6 W (hTy.below h)⟩
        have CP : Aside0 (∀ W, Below wy.heap.size wy W → Calls Tryd.prog 24 #[.agg #[.int .i64 k, .string t, .slice A5 n5 c5, .slice B5 m5 d5]] W fun e w' => e = .returned (.bool (isP pp)) ∧ Below W.heap.size W w') := ⟨fun W h => HIP.out pp W _ _ _ _ _ _ _ _ hbg ((hpp.below HY.out).below h) (hTy.below h)⟩
        obtain ⟨b1, hb1⟩ : ∃ b, endB ⟨v1, ⟨k1, t1, x1⟩⟩ = b := ⟨_, rfl⟩
        obtain ⟨b2, hb2⟩ : ∃ b, endB ⟨v2, ⟨k2, t2, x2⟩⟩ = b := ⟨_, rfl⟩
        obtain ⟨b3, hb3⟩ : ∃ b, isP pp = b := ⟨_, rfl⟩
        have HA : Aside0 ((∀ (i : Nat) p, ps[i]? = some p → endB p.s = true ∧ endB p.o = true ∧ isP p.p = true) → b1 = true ∧ b2 = true ∧ b3 = true) := ⟨fun h => by
          have := h i _ hp
          simp only at this
          rwa [hb1, hb2, hb3] at this⟩
        have HA2 : Aside0 (b1 = true ∧ b2 = true ∧ b3 = true → ∀ (j : Nat) p, j < i + 1 → ps[j]? = some p → endB p.s = true ∧ endB p.o = true ∧ isP p.p = true) := ⟨fun hb j p hj hpj => by
          by_cases e : j = i
          · subst e
            obtain rfl := Option.some.inj (hp.symm.trans hpj)
            show endB ⟨v1, ⟨k1, t1, x1⟩⟩ = true ∧ endB ⟨v2, ⟨k2, t2, x2⟩⟩ = true ∧ isP pp = true
            rw [hb1, hb2, hb3]
            exact hb
          · exact HJ.out j p (by omega) hpj⟩
        rw [hb1] at C1
        rw [hb2] at C2
        rw [hb3] at CP
        clear hcl hp hpa hpp hnp hbg hTy hwy hsy hb1 hb2 hb3 s1 s2 s3 s4 s5 s6
        cases b1 with
        | false =>
          have HF : Aside0 (¬ P) := ⟨fun h => by rw [← HPP.out] at h; exact absurd (HA.out h.2.2.2.1) (by simp)⟩
          go_upto_region 7 with (fail)
          rw [HHY.out]
          obtain ⟨z0, z1, z2, z3, z4, z5, z6, z7, z8, z9, z10, z11⟩ := HZ.out _ HB0.out
          clear a0 a1 a2 a3 a4 a5 a6 a7 a8 a9 a10 a11 q0 q1 q2 q3 q4 q5
          go_wp2_with (go_at_call 82; (with_reducible refine (C1.out _ HB0.out).mono ?_); rintro e w1 ⟨rfl, hb⟩; have HB1 := Aside0.mk (below_then HB0.out HB0.out.size hb); clear hb z0 z1 z2 z3 z4 z5 z6 z7 z8 z9 z10 z11; obtain ⟨z0, z1, z2, z3, z4, z5, z6, z7, z8, z9, z10, z11⟩ := HZ.out _ HB1.out)
          go_ret
          exact no_p HF.out (w_then HB.out (HBy.out.trans (HB1.out.mono HBy.out.size)))
        | true =>
          cases b2 with
          | false =>
            have HF : Aside0 (¬ P) := ⟨fun h => by rw [← HPP.out] at h; exact absurd (HA.out h.2.2.2.1) (by simp)⟩
            go_upto_region 7 with (fail)
            rw [HHY.out]
            obtain ⟨z0, z1, z2, z3, z4, z5, z6, z7, z8, z9, z10, z11⟩ := HZ.out _ HB0.out
            clear a0 a1 a2 a3 a4 a5 a6 a7 a8 a9 a10 a11 q0 q1 q2 q3 q4 q5
            go_wp2_with (first
              | (go_at_call 82; (with_reducible refine (C1.out _ HB0.out).mono ?_); rintro e w1 ⟨rfl, hb⟩; have HB1 := Aside0.mk (below_then HB0.out HB0.out.size hb); clear hb z0 z1 z2 z3 z4 z5 z6 z7 z8 z9 z10 z11; obtain ⟨z0, z1, z2, z3, z4, z5, z6, z7, z8, z9, z10, z11⟩ := HZ.out _ HB1.out)
              | (go_at_call 82; (with_reducible refine (C2.out _ HB1.out).mono ?_); rintro e w2 ⟨rfl, hb⟩; have HB2 := Aside0.mk (below_then HB1.out HB1.out.size hb); clear hb z0 z1 z2 z3 z4 z5 z6 z7 z8 z9 z10 z11; obtain ⟨z0, z1, z2, z3, z4, z5, z6, z7, z8, z9, z10, z11⟩ := HZ.out _ HB2.out))
            go_ret
            exact no_p HF.out (w_then HB.out (HBy.out.trans (HB2.out.mono HBy.out.size)))
          | true =>
            cases b3 with
            | false =>
              have HF : Aside0 (¬ P) := ⟨fun h => by rw [← HPP.out] at h; exact absurd (HA.out h.2.2.2.1) (by simp)⟩
              go_upto_region 7 with (fail)
              rw [HHY.out]
              obtain ⟨z0, z1, z2, z3, z4, z5, z6, z7, z8, z9, z10, z11⟩ := HZ.out _ HB0.out
              clear a0 a1 a2 a3 a4 a5 a6 a7 a8 a9 a10 a11 q0 q1 q2 q3 q4 q5
              go_wp2_with (first
                | (go_at_call 82; (with_reducible refine (C1.out _ HB0.out).mono ?_); rintro e w1 ⟨rfl, hb⟩; have HB1 := Aside0.mk (below_then HB0.out HB0.out.size hb); clear hb z0 z1 z2 z3 z4 z5 z6 z7 z8 z9 z10 z11; obtain ⟨z0, z1, z2, z3, z4, z5, z6, z7, z8, z9, z10, z11⟩ := HZ.out _ HB1.out)
                | (go_at_call 82; (with_reducible refine (C2.out _ HB1.out).mono ?_); rintro e w2 ⟨rfl, hb⟩; have HB2 := Aside0.mk (below_then HB1.out HB1.out.size hb); clear hb z0 z1 z2 z3 z4 z5 z6 z7 z8 z9 z10 z11; obtain ⟨z0, z1, z2, z3, z4, z5, z6, z7, z8, z9, z10, z11⟩ := HZ.out _ HB2.out)
                | (go_at_call 24; (with_reducible refine (CP.out _ HB2.out).mono ?_); rintro e w3 ⟨rfl, hb⟩; have HB3 := Aside0.mk (below_then HB2.out HB2.out.size hb); clear hb z0 z1 z2 z3 z4 z5 z6 z7 z8 z9 z10 z11; obtain ⟨z0, z1, z2, z3, z4, z5, z6, z7, z8, z9, z10, z11⟩ := HZ.out _ HB3.out))
              go_ret
              exact no_p HF.out (w_then HB.out (HBy.out.trans (HB3.out.mono HBy.out.size)))
            | true =>
              go_upto_region 7 with (fail)
              rw [HHY.out]
              obtain ⟨z0, z1, z2, z3, z4, z5, z6, z7, z8, z9, z10, z11⟩ := HZ.out _ HB0.out
              clear a0 a1 a2 a3 a4 a5 a6 a7 a8 a9 a10 a11 q0 q1 q2 q3 q4 q5
              go_wp2_with (first
                | (go_at_call 82; (with_reducible refine (C1.out _ HB0.out).mono ?_); rintro e w1 ⟨rfl, hb⟩; have HB1 := Aside0.mk (below_then HB0.out HB0.out.size hb); clear hb z0 z1 z2 z3 z4 z5 z6 z7 z8 z9 z10 z11; obtain ⟨z0, z1, z2, z3, z4, z5, z6, z7, z8, z9, z10, z11⟩ := HZ.out _ HB1.out)
                | (go_at_call 82; (with_reducible refine (C2.out _ HB1.out).mono ?_); rintro e w2 ⟨rfl, hb⟩; have HB2 := Aside0.mk (below_then HB1.out HB1.out.size hb); clear hb z0 z1 z2 z3 z4 z5 z6 z7 z8 z9 z10 z11; obtain ⟨z0, z1, z2, z3, z4, z5, z6, z7, z8, z9, z10, z11⟩ := HZ.out _ HB2.out)
                | (go_at_call 24; (with_reducible refine (CP.out _ HB2.out).mono ?_); rintro e w3 ⟨rfl, hb⟩; have HB3 := Aside0.mk (below_then HB2.out HB2.out.size hb); clear hb z0 z1 z2 z3 z4 z5 z6 z7 z8 z9 z10 z11; obtain ⟨z0, z1, z2, z3, z4, z5, z6, z7, z8, z9, z10, z11⟩ := HZ.out _ HB3.out))
              go_roundw
              case rel => exact ⟨i + 1, by omega, by go_num, ⟨HA2.out (by simp)⟩, ⟨HBy.out.trans (HB3.out.mono HBy.out.size)⟩⟩
              case measure => simp [intOf]; omega
      · have HPAT : Aside0 (∀ (i : Nat) p, ps[i]? = some p → endB p.s = true ∧ endB p.o = true ∧ isP p.p = true) := ⟨fun j p hp => HJ.out j p (by have := (List.getElem?_eq_some_iff.1 hp).1; omega) hp⟩
        have CV := Aside0.mk (CVA.out wv HBv.out)
        have hvl := varsL_len ps ps.length (Nat.le_refl _)
        rw [List.take_length] at hvl
        obtain ⟨all, hall⟩ : ∃ l, varsL ps = l := ⟨_, rfl⟩
        have HALL := Aside0.mk hall
        try simp only at CV
        rw [hall] at CV hvl
        have g1 : decide ((i : Int) < (ps.length : Int)) = false := by rw [decide_eq_false_iff_not]; omega
        have g1n : decide (i < ps.length) = false := by rw [decide_eq_false_iff_not]; omega
        clear hin hi hall
        go_wp2_with (go_at_call 49; (with_reducible refine CV.out.mono ?_); rintro e wx ⟨E, ec, rfl, hle, hte, hb⟩; have HBx := Aside0.mk (below_then HBv.out HBv.out.size hb); have HTE := Aside0.mk hte; clear hb hte q0 q1 q2 q3 q4 q5; have q1 := blk_cell (blk_below HN.out HBx.out) 1; have q2 := blk_cell (blk_below HN.out HBx.out) 2; have q3 := blk_cell (blk_below HN.out HBx.out) 3; have q4 := blk_cell (blk_below HN.out HBx.out) 4; have q5 := blk_cell (blk_below HN.out HBx.out) 5; have q0 := blk_cell (blk_below HN.out HBx.out) 0; simp at q0 q1 q2 q3 q4 q5)
        clear g1 g1n
        go_loopw [6] (fun u wr => ∃ i : Nat, i ≤ fs.length ∧ u = .int .i64 i ∧ Aside0 (∀ (j : Nat) f, j < i → fs[j]? = some f → Lib.containsS all f.v = true ∧ opB f.op = true) ∧ Aside0 (wr = wx)) (fun u _ => fs.length - (intOf u).toNat)
        case atStart => exact ⟨0, by omega, rfl, ⟨fun j p h => by omega⟩, ⟨by first | trivial | rfl⟩⟩
        case round =>
          obtain ⟨i, hi, rfl, HJ, hw⟩ := hrel
          obtain rfl := hw.out.symm
          by_cases hin : i < fs.length
          · obtain ⟨f, hf⟩ : ∃ f, fs[i]? = some f := ⟨fs[i]'hin, List.getElem?_eq_getElem _⟩
            obtain ⟨fb, fo, cs, rfl, hcl, ⟨u9, rfl⟩⟩ := HFS.out.below HBx.out (fun a cs h => h) i f hf
            obtain ⟨fv, fop⟩ := f
            simp only at hcl
            have a0 := hcl 0 _ rfl
            have a1 := hcl 1 _ rfl
            simp only [Nat.add_zero] at a0
            have g0 : (0 : Int) ≤ (i : Int) := by omega
            have g1 : (i : Int) < (fs.length : Int) := by omega
            have CC := Aside0.mk (place_any HTE.out ec fv)
            have CO := Aside0.mk (refOp_any fop wx)
            have HIF := Aside0.mk (Lib.containsS_iff all fv)
            obtain ⟨b1, hb1⟩ : ∃ b, Lib.containsS all fv = b := ⟨_, rfl⟩
            obtain ⟨b2, hb2⟩ : ∃ b, opB fop = b := ⟨_, rfl⟩
            have HA : Aside0 ((∀ (i : Nat) f, fs[i]? = some f → Lib.containsS (varsL ps) f.v = true ∧ opB f.op = true) → b1 = true ∧ b2 = true) := ⟨fun h => by
              have := h i _ hf
              simp only at this
              rwa [HALL.out, hb1, hb2] at this⟩
            have HA2 : Aside0 (b1 = true ∧ b2 = true → ∀ (j : Nat) f, j < i + 1 → fs[j]? = some f → Lib.containsS all f.v = true ∧ opB f.op = true) := ⟨fun hb j f hj hfj => by
              by_cases e : j = i
              · subst e
                obtain rfl := Option.some.inj (hf.symm.trans hfj)
                show Lib.containsS all fv = true ∧ opB fop = true
                rw [hb1, hb2]
                exact hb
              · exact HJ.out j f (by omega) hfj⟩
            rw [hb1] at HIF
            rw [hb2] at CO
            clear hcl hf hb1 hb2
            cases b1 with
            | false =>
              have HF : Aside0 (¬ P) := ⟨fun h => by rw [← HPP.out] at h; exact absurd (HA.out h.2.2.2.2.1) (by simp)⟩
              have HM : Aside0 (fv ∉ all) := ⟨fun h => by have := HIF.out.2 h; cases this⟩
              go_wp2_with (go_at_call 46; (with_reducible refine CC.out.mono ?_); rintro e w1 ⟨x5, rfl, hin5, hout5, hw5⟩; obtain rfl := hw5.symm; obtain ⟨y1, y2⟩ := hout5 HM.out; clear hin5 hout5)
              go_ret
              exact no_p HF.out (w_then HB.out HBx.out)
            | true =>
              cases b2 with
              | false =>
                have HF : Aside0 (¬ P) := ⟨fun h => by rw [← HPP.out] at h; exact absurd (HA.out h.2.2.2.2.1) (by simp)⟩
                have HM : Aside0 (fv ∈ all) := ⟨HIF.out.1 rfl⟩
                go_wp2_with (first
                  | (go_at_call 46; (with_reducible refine CC.out.mono ?_); rintro e w1 ⟨x5, rfl, hin5, hout5, hw5⟩; obtain rfl := hw5.symm; obtain ⟨y1, y2⟩ := hin5 HM.out; clear hin5 hout5)
                  | (go_at_call 83; (with_reducible refine CO.out.mono ?_); rintro e w2 ⟨rfl, hw6⟩; obtain rfl := hw6.symm))
                go_ret
                exact no_p HF.out (w_then HB.out HBx.out)
              | true =>
                have HM : Aside0 (fv ∈ all) := ⟨HIF.out.1 rfl⟩
                go_wp2_with (first
                  | (go_at_call 46; (with_reducible refine CC.out.mono ?_); rintro e w1 ⟨x5, rfl, hin5, hout5, hw5⟩; obtain rfl := hw5.symm; obtain ⟨y1, y2⟩ := hin5 HM.out; clear hin5 hout5)
                  | (go_at_call 83; (with_reducible refine CO.out.mono ?_); rintro e w2 ⟨rfl, hw6⟩; obtain rfl := hw6.symm))
                go_roundw
                case rel => exact ⟨i + 1, by omega, by go_num, ⟨HA2.out (by simp)⟩, ⟨by first | trivial | rfl⟩⟩
                case measure => simp [intOf]; omega
          · have HFIL : Aside0 (∀ (i : Nat) f, fs[i]? = some f → Lib.containsS all f.v = true ∧ opB f.op = true) := ⟨fun j f hf => HJ.out j f (by have := (List.getElem?_eq_some_iff.1 hf).1; omega) hf⟩
            have g1 : decide ((i : Int) < (fs.length : Int)) = false := by rw [decide_eq_false_iff_not]; omega
            have g1n : decide (i < fs.length) = false := by rw [decide_eq_false_iff_not]; omega
            clear hin hi
            go_wp2_with fail
            clear g1 g1n q0 q1 q2 q3 q4 q5
            go_loopw [7] (fun u wr => ∃ i : Nat, i ≤ vs.length ∧ u = .int .i64 i ∧ Aside0 (∀ (j : Nat) v, j < i → vs[j]? = some v → Lib.containsS all v = true ∧ Lib.containsS (vs.take j) v = false) ∧ Aside0 (Below wb.heap.size wb wr) ∧ Aside0 (Below wx.heap.size wx wr)) (fun u _ => vs.length - (intOf u).toNat)
            case atStart => exact ⟨0, by omega, rfl, ⟨fun j v h => by omega⟩, HBx, ⟨Below.refl _ _⟩⟩
            case round =>
              obtain ⟨wr2, rfl⟩ : ∃ x, x = wr := ⟨wr, rfl⟩
              obtain ⟨i, hi, rfl, HJ, HBr, HXr⟩ := hrel
              have q1 := blk_cell (blk_below HN.out HBr.out) 1; have q2 := blk_cell (blk_below HN.out HBr.out) 2; have q3 := blk_cell (blk_below HN.out HBr.out) 3; have q4 := blk_cell (blk_below HN.out HBr.out) 4; have q5 := blk_cell (blk_below HN.out HBr.out) 5; have q0 := blk_cell (blk_below HN.out HBr.out) 0; simp at q0 q1 q2 q3 q4 q5
              by_cases hin : i < vs.length
              · obtain ⟨v, hv⟩ : ∃ v, vs[i]? = some v := ⟨vs[i]'hin, List.getElem?_eq_getElem _⟩
                have hTr := HTS.out.move (w1 := wr2) (fun g _ hg => HBr.out.block g hg)
                obtain ⟨tb, tf, hA, -, htc⟩ := hTr.2 (by omega)
                have hcell := htc i v hv
                subst hA
                have g0 : (0 : Int) ≤ (i : Int) := by omega
                have g1 : (i : Int) < (vs.length : Int) := by omega
                have g3 : (i : Int) ≤ (c : Int) := by omega
                have CT : Aside0 (∀ W, Below wr2.heap.size wr2 W → Calls Tryd.prog 46 #[.slice (some ⟨tb, tf, none⟩) i c, .string v] W (PlaceP W (vs.take i) v)) := ⟨fun W h => by
                  have := place_any ((hTr.take i).move (fun g _ hg => h.block g hg)) c v
                  rwa [show (vs.take i).length = i by rw [List.length_take]; omega] at this⟩
                have CV : Aside0 (∀ W, Below wr2.heap.size wr2 W → Calls Tryd.prog 46 #[.slice E all.length ec, .string v] W (PlaceP W all v)) := ⟨fun W h => place_any ((HTE.out.move (fun g _ hg => HXr.out.block g hg)).move (fun g _ hg => h.block g hg)) ec v⟩
                have HCE : Aside0 (∀ W, Below wr2.heap.size wr2 W → (fun W : World => W.cell? ⟨w.heap.size, 1, none⟩ = some (.slice (some ⟨tb, tf, none⟩) vs.length c) ∧ W.cell? ⟨tb, tf + i, none⟩ = some (.string v)) W) := ⟨fun W h => ⟨pw_cell_below h q1, pw_cell_below h hcell⟩⟩
                obtain ⟨b1, hb1⟩ : ∃ b, Lib.containsS all v = b := ⟨_, rfl⟩
                obtain ⟨b2, hb2⟩ : ∃ b, Lib.containsS (vs.take i) v = b := ⟨_, rfl⟩
                have H1 := Aside0.mk (Lib.containsS_iff all v)
                have H2 := Aside0.mk (Lib.containsS_iff (vs.take i) v)
                have HV1 : Aside0 (VarOk (varsL ps) vs → b1 = true ∧ b2 = false) := ⟨fun h => by
                  have := h i v hv
                  rwa [HALL.out, hb1, hb2] at this⟩
                have HV2 : Aside0 (b1 = true ∧ b2 = false → ∀ (j : Nat) v, j < i + 1 → vs[j]? = some v → Lib.containsS all v = true ∧ Lib.containsS (vs.take j) v = false) := ⟨fun hb j u hj hu => by
                  by_cases e : j = i
                  · subst e
                    obtain rfl := Option.some.inj (hv.symm.trans hu)
                    rw [hb1, hb2]
                    exact hb
                  · exact HJ.out j u (by omega) hu⟩
                rw [hb1] at H1
                rw [hb2] at H2
                clear htc hv hb1 hb2 hTr
                cases b1 with
                | false =>
                  have HF : Aside0 (¬ P) := ⟨fun h => by rw [← HPP.out] at h; exact absurd (HV1.out h.2.2.2.2.2.2.1.1) (by simp)⟩
                  go_upto_region 18 with (fail)
                  have HS := HCE.out
                  clear hcell
                  have HM : Aside0 (v ∉ all) := ⟨fun h => by have := H1.out.2 h; cases this⟩
                  have hS : (fun W : World => W.cell? ⟨w.heap.size, 1, none⟩ = some (.slice (some ⟨tb, tf, none⟩) vs.length c) ∧ W.cell? ⟨tb, tf + i, none⟩ = some (.string v)) wr2.drew := HS _ (below_drew (Below.refl wr2.heap.size wr2))
                  refine wp_region_held (S := (fun W : World => W.cell? ⟨w.heap.size, 1, none⟩ = some (.slice (some ⟨tb, tf, none⟩) vs.length c) ∧ W.cell? ⟨tb, tf + i, none⟩ = some (.string v))) (by kernel_rfl) ?_
                  change wpAnyH _ _ _ _ _ _ _ _ wr2.drew
                  first | refine tkU 0 hS ?_ | (refine tkV 0 (v := ?_) hS ?_ ?_; rotate_left 1; · (intro w0 hSw; (try dsimp only at hSw); go_split_ands; go_simp; try with_reducible rfl)) | fail
                  try simp only [Act.put, pL]
                  first | refine tkU 1 hS ?_ | (refine tkV 1 (v := ?_) hS ?_ ?_; rotate_left 1; · (intro w0 hSw; (try dsimp only at hSw); go_split_ands; go_simp; try with_reducible rfl)) | fail
                  try simp only [Act.put, pL]
                  first | refine tkU 2 hS ?_ | (refine tkV 2 (v := ?_) hS ?_ ?_; rotate_left 1; · (intro w0 hSw; (try dsimp only at hSw); go_split_ands; go_simp; try with_reducible rfl)) | fail
                  try simp only [Act.put, pL]
                  first | refine tkU 3 hS ?_ | (refine tkV 3 (v := ?_) hS ?_ ?_; rotate_left 1; · (intro w0 hSw; (try dsimp only at hSw); go_split_ands; go_simp; try with_reducible rfl)) | fail
                  try simp only [Act.put, pL]
                  first | refine tkU 4 hS ?_ | (refine tkV 4 (v := ?_) hS ?_ ?_; rotate_left 1; · (intro w0 hSw; (try dsimp only at hSw); go_split_ands; go_simp; try with_reducible rfl)) | fail
                  try simp only [Act.put, pL]
                  first | refine tkU 5 hS ?_ | (refine tkV 5 (v := ?_) hS ?_ ?_; rotate_left 1; · (intro w0 hSw; (try dsimp only at hSw); go_split_ands; go_simp; try with_reducible rfl)) | fail
                  try simp only [Act.put, pL]
                  refine wpAnyH_ready (rs := [6]) (by kernel_rfl) (by simp) ?_
                  refine AllReadyH.cons rfl (fun K hK => ?_) AllReadyH.nil
                  go_simp
                  refine (CV.out _ (below_drew (Below.refl wr2.heap.size wr2))).mono ?_
                  rintro e w7 ⟨x5, rfl, hin5, hout5, hw5⟩
                  obtain ⟨y1, y2⟩ := hout5 HM.out
                  obtain rfl := hw5.symm
                  clear hin5 hout5
                  refine hK.out _ _ hS (fun _ => ?_)
                  clear hK K
                  try simp only [Act.put, pL]
                  first | refine tkU 7 hS ?_ | (refine tkV 7 (v := ?_) hS ?_ ?_; rotate_left 1; · (intro w0 hSw; (try dsimp only at hSw); go_split_ands; go_simp; try with_reducible rfl)) | fail
                  try simp only [Act.put, pL]
                  first | refine tkU 8 hS ?_ | (refine tkV 8 (v := ?_) hS ?_ ?_; rotate_left 1; · (intro w0 hSw; (try dsimp only at hSw); go_split_ands; go_simp; try with_reducible rfl)) | fail
                  try simp only [Act.put, pL]
                  first | refine tkU 9 hS ?_ | (refine tkV 9 (v := ?_) hS ?_ ?_; rotate_left 1; · (intro w0 hSw; (try dsimp only at hSw); go_split_ands; go_simp; try with_reducible rfl)) | fail
                  try simp only [Act.put, pL]
                  first | refine tkU 10 hS ?_ | (refine tkV 10 (v := ?_) hS ?_ ?_; rotate_left 1; · (intro w0 hSw; (try dsimp only at hSw); go_split_ands; go_simp; try with_reducible rfl)) | fail
                  try simp only [Act.put, pL]
                  first | refine tkU 11 hS ?_ | (refine tkV 11 (v := ?_) hS ?_ ?_; rotate_left 1; · (intro w0 hSw; (try dsimp only at hSw); go_split_ands; go_simp; try with_reducible rfl)) | fail
                  try simp only [Act.put, pL]
                  first | refine tkU 12 hS ?_ | (refine tkV 12 (v := ?_) hS ?_ ?_; rotate_left 1; · (intro w0 hSw; (try dsimp only at hSw); go_split_ands; go_simp; try with_reducible rfl)) | fail
                  try simp only [Act.put, pL]
                  first | refine tkU 13 hS ?_ | (refine tkV 13 (v := ?_) hS ?_ ?_; rotate_left 1; · (intro w0 hSw; (try dsimp only at hSw); go_split_ands; go_simp; try with_reducible rfl)) | fail
                  try simp only [Act.put, pL]
                  first | refine tkU 14 hS ?_ | (refine tkV 14 (v := ?_) hS ?_ ?_; rotate_left 1; · (intro w0 hSw; (try dsimp only at hSw); go_split_ands; go_simp; try with_reducible rfl)) | fail
                  try simp only [Act.put, pL]
                  first | refine tkU 15 hS ?_ | (refine tkV 15 (v := ?_) hS ?_ ?_; rotate_left 1; · (intro w0 hSw; (try dsimp only at hSw); go_split_ands; go_simp; try with_reducible rfl)) | fail
                  try simp only [Act.put, pL]
                  first | refine tkU 16 hS ?_ | (refine tkV 16 (v := ?_) hS ?_ ?_; rotate_left 1; · (intro w0 hSw; (try dsimp only at hSw); go_split_ands; go_simp; try with_reducible rfl)) | fail
                  try simp only [Act.put, pL]
                  first | refine tkU 17 hS ?_ | (refine tkV 17 (v := ?_) hS ?_ ?_; rotate_left 1; · (intro w0 hSw; (try dsimp only at hSw); go_split_ands; go_simp; try with_reducible rfl)) | fail
                  try simp only [Act.put, pL]
                  first | refine tkU 18 hS ?_ | (refine tkV 18 (v := ?_) hS ?_ ?_; rotate_left 1; · (intro w0 hSw; (try dsimp only at hSw); go_split_ands; go_simp; try with_reducible rfl)) | fail
                  try simp only [Act.put, pL]
                  first | refine tkU 19 hS ?_ | (refine tkV 19 (v := ?_) hS ?_ ?_; rotate_left 1; · (intro w0 hSw; (try dsimp only at hSw); go_split_ands; go_simp; try with_reducible rfl)) | fail
                  try simp only [Act.put, pL]
                  first | refine tkU 20 hS ?_ | (refine tkV 20 (v := ?_) hS ?_ ?_; rotate_left 1; · (intro w0 hSw; (try dsimp only at hSw); go_split_ands; go_simp; try with_reducible rfl)) | fail
                  try simp only [Act.put, pL]
                  refine wpAnyH_done (by kernel_rfl) ?_ _
                  have HBd := Aside0.mk (below_drew HBr.out)
                  clear hS
                  go_wp2_with fail
                  go_ret
                  exact no_p HF.out (w_then HB.out HBd.out)
                | true =>
                  cases b2 with
                  | true =>
                    have HF : Aside0 (¬ P) := ⟨fun h => by rw [← HPP.out] at h; exact absurd (HV1.out h.2.2.2.2.2.2.1.1) (by simp)⟩
                    go_upto_region 18 with (fail)
                    have HS := HCE.out
                    clear hcell
                    have HM : Aside0 (v ∈ all) := ⟨H1.out.1 rfl⟩
                    have HM2 : Aside0 (v ∈ vs.take i) := ⟨H2.out.1 rfl⟩
                    have hS : (fun W : World => W.cell? ⟨w.heap.size, 1, none⟩ = some (.slice (some ⟨tb, tf, none⟩) vs.length c) ∧ W.cell? ⟨tb, tf + i, none⟩ = some (.string v)) wr2.drew := HS _ (below_drew (Below.refl wr2.heap.size wr2))
                    refine wp_region_held (S := (fun W : World => W.cell? ⟨w.heap.size, 1, none⟩ = some (.slice (some ⟨tb, tf, none⟩) vs.length c) ∧ W.cell? ⟨tb, tf + i, none⟩ = some (.string v))) (by kernel_rfl) ?_
                    change wpAnyH _ _ _ _ _ _ _ _ wr2.drew
                    first | refine tkU 0 hS ?_ | (refine tkV 0 (v := ?_) hS ?_ ?_; rotate_left 1; · (intro w0 hSw; (try dsimp only at hSw); go_split_ands; go_simp; try with_reducible rfl)) | fail
                    try simp only [Act.put, pL]
                    first | refine tkU 1 hS ?_ | (refine tkV 1 (v := ?_) hS ?_ ?_; rotate_left 1; · (intro w0 hSw; (try dsimp only at hSw); go_split_ands; go_simp; try with_reducible rfl)) | fail
                    try simp only [Act.put, pL]
                    first | refine tkU 2 hS ?_ | (refine tkV 2 (v := ?_) hS ?_ ?_; rotate_left 1; · (intro w0 hSw; (try dsimp only at hSw); go_split_ands; go_simp; try with_reducible rfl)) | fail
                    try simp only [Act.put, pL]
                    first | refine tkU 3 hS ?_ | (refine tkV 3 (v := ?_) hS ?_ ?_; rotate_left 1; · (intro w0 hSw; (try dsimp only at hSw); go_split_ands; go_simp; try with_reducible rfl)) | fail
                    try simp only [Act.put, pL]
                    first | refine tkU 4 hS ?_ | (refine tkV 4 (v := ?_) hS ?_ ?_; rotate_left 1; · (intro w0 hSw; (try dsimp only at hSw); go_split_ands; go_simp; try with_reducible rfl)) | fail
                    try simp only [Act.put, pL]
                    first | refine tkU 5 hS ?_ | (refine tkV 5 (v := ?_) hS ?_ ?_; rotate_left 1; · (intro w0 hSw; (try dsimp only at hSw); go_split_ands; go_simp; try with_reducible rfl)) | fail
                    try simp only [Act.put, pL]
                    refine wpAnyH_ready (rs := [6]) (by kernel_rfl) (by simp) ?_
                    refine AllReadyH.cons rfl (fun K hK => ?_) AllReadyH.nil
                    go_simp
                    refine (CV.out _ (below_drew (Below.refl wr2.heap.size wr2))).mono ?_
                    rintro e w7 ⟨x5, rfl, hin5, hout5, hw5⟩
                    obtain ⟨y1, y2⟩ := hin5 HM.out
                    obtain rfl := hw5.symm
                    clear hin5 hout5
                    refine hK.out _ _ hS (fun _ => ?_)
                    clear hK K
                    try simp only [Act.put, pL]
                    first | refine tkU 7 hS ?_ | (refine tkV 7 (v := ?_) hS ?_ ?_; rotate_left 1; · (intro w0 hSw; (try dsimp only at hSw); go_split_ands; go_simp; try with_reducible rfl)) | fail
                    try simp only [Act.put, pL]
                    first | refine tkU 8 hS ?_ | (refine tkV 8 (v := ?_) hS ?_ ?_; rotate_left 1; · (intro w0 hSw; (try dsimp only at hSw); go_split_ands; go_simp; try with_reducible rfl)) | fail
                    try simp only [Act.put, pL]
                    first | refine tkU 9 hS ?_ | (refine tkV 9 (v := ?_) hS ?_ ?_; rotate_left 1; · (intro w0 hSw; (try dsimp only at hSw); go_split_ands; go_simp; try with_reducible rfl)) | fail
                    try simp only [Act.put, pL]
                    first | refine tkU 10 hS ?_ | (refine tkV 10 (v := ?_) hS ?_ ?_; rotate_left 1; · (intro w0 hSw; (try dsimp only at hSw); go_split_ands; go_simp; try with_reducible rfl)) | fail
                    try simp only [Act.put, pL]
                    first | refine tkU 11 hS ?_ | (refine tkV 11 (v := ?_) hS ?_ ?_; rotate_left 1; · (intro w0 hSw; (try dsimp only at hSw); go_split_ands; go_simp; try with_reducible rfl)) | fail
                    try simp only [Act.put, pL]
                    first | refine tkU 12 hS ?_ | (refine tkV 12 (v := ?_) hS ?_ ?_; rotate_left 1; · (intro w0 hSw; (try dsimp only at hSw); go_split_ands; go_simp; try with_reducible rfl)) | fail
                    try simp only [Act.put, pL]
                    first | refine tkU 13 hS ?_ | (refine tkV 13 (v := ?_) hS ?_ ?_; rotate_left 1; · (intro w0 hSw; (try dsimp only at hSw); go_split_ands; go_simp; try with_reducible rfl)) | fail
                    try simp only [Act.put, pL]
                    first | refine tkU 14 hS ?_ | (refine tkV 14 (v := ?_) hS ?_ ?_; rotate_left 1; · (intro w0 hSw; (try dsimp only at hSw); go_split_ands; go_simp; try with_reducible rfl)) | fail
                    try simp only [Act.put, pL]
                    first | refine tkU 15 hS ?_ | (refine tkV 15 (v := ?_) hS ?_ ?_; rotate_left 1; · (intro w0 hSw; (try dsimp only at hSw); go_split_ands; go_simp; try with_reducible rfl)) | fail
                    try simp only [Act.put, pL]
                    first | refine tkU 16 hS ?_ | (refine tkV 16 (v := ?_) hS ?_ ?_; rotate_left 1; · (intro w0 hSw; (try dsimp only at hSw); go_split_ands; go_simp; try with_reducible rfl)) | fail
                    try simp only [Act.put, pL]
                    first | refine tkU 17 hS ?_ | (refine tkV 17 (v := ?_) hS ?_ ?_; rotate_left 1; · (intro w0 hSw; (try dsimp only at hSw); go_split_ands; go_simp; try with_reducible rfl)) | fail
                    try simp only [Act.put, pL]
                    refine wpAnyH_ready (rs := [18]) (by kernel_rfl) (by simp) ?_
                    refine AllReadyH.cons rfl (fun K hK => ?_) AllReadyH.nil
                    go_simp
                    refine (CT.out _ (below_drew (Below.refl wr2.heap.size wr2))).mono ?_
                    rintro e w8 ⟨x6, rfl, hin5, hout5, hw5⟩
                    obtain ⟨y3, y4⟩ := hin5 HM2.out
                    obtain rfl := hw5.symm
                    clear hin5 hout5
                    refine hK.out _ _ hS (fun _ => ?_)
                    clear hK K
                    try simp only [Act.put, pL]
                    first | refine tkU 19 hS ?_ | (refine tkV 19 (v := ?_) hS ?_ ?_; rotate_left 1; · (intro w0 hSw; (try dsimp only at hSw); go_split_ands; go_simp; try with_reducible rfl)) | fail
                    try simp only [Act.put, pL]
                    first | refine tkU 20 hS ?_ | (refine tkV 20 (v := ?_) hS ?_ ?_; rotate_left 1; · (intro w0 hSw; (try dsimp only at hSw); go_split_ands; go_simp; try with_reducible rfl)) | fail
                    try simp only [Act.put, pL]
                    refine wpAnyH_done (by kernel_rfl) ?_ _
                    have HBd := Aside0.mk (below_drew HBr.out)
                    clear hS
                    go_wp2_with fail
                    go_ret
                    exact no_p HF.out (w_then HB.out HBd.out)
                  | false =>
                    go_upto_region 18 with (fail)
                    have HS := HCE.out
                    clear hcell
                    have HM : Aside0 (v ∈ all) := ⟨H1.out.1 rfl⟩
                    have HM2 : Aside0 (v ∉ vs.take i) := ⟨fun h => by have := H2.out.2 h; cases this⟩
                    have hS : (fun W : World => W.cell? ⟨w.heap.size, 1, none⟩ = some (.slice (some ⟨tb, tf, none⟩) vs.length c) ∧ W.cell? ⟨tb, tf + i, none⟩ = some (.string v)) wr2.drew := HS _ (below_drew (Below.refl wr2.heap.size wr2))
                    refine wp_region_held (S := (fun W : World => W.cell? ⟨w.heap.size, 1, none⟩ = some (.slice (some ⟨tb, tf, none⟩) vs.length c) ∧ W.cell? ⟨tb, tf + i, none⟩ = some (.string v))) (by kernel_rfl) ?_
                    change wpAnyH _ _ _ _ _ _ _ _ wr2.drew
                    first | refine tkU 0 hS ?_ | (refine tkV 0 (v := ?_) hS ?_ ?_; rotate_left 1; · (intro w0 hSw; (try dsimp only at hSw); go_split_ands; go_simp; try with_reducible rfl)) | fail
                    try simp only [Act.put, pL]
                    first | refine tkU 1 hS ?_ | (refine tkV 1 (v := ?_) hS ?_ ?_; rotate_left 1; · (intro w0 hSw; (try dsimp only at hSw); go_split_ands; go_simp; try with_reducible rfl)) | fail
                    try simp only [Act.put, pL]
                    first | refine tkU 2 hS ?_ | (refine tkV 2 (v := ?_) hS ?_ ?_; rotate_left 1; · (intro w0 hSw; (try dsimp only at hSw); go_split_ands; go_simp; try with_reducible rfl)) | fail
                    try simp only [Act.put, pL]
                    first | refine tkU 3 hS ?_ | (refine tkV 3 (v := ?_) hS ?_ ?_; rotate_left 1; · (intro w0 hSw; (try dsimp only at hSw); go_split_ands; go_simp; try with_reducible rfl)) | fail
                    try simp only [Act.put, pL]
                    first | refine tkU 4 hS ?_ | (refine tkV 4 (v := ?_) hS ?_ ?_; rotate_left 1; · (intro w0 hSw; (try dsimp only at hSw); go_split_ands; go_simp; try with_reducible rfl)) | fail
                    try simp only [Act.put, pL]
                    first | refine tkU 5 hS ?_ | (refine tkV 5 (v := ?_) hS ?_ ?_; rotate_left 1; · (intro w0 hSw; (try dsimp only at hSw); go_split_ands; go_simp; try with_reducible rfl)) | fail
                    try simp only [Act.put, pL]
                    refine wpAnyH_ready (rs := [6]) (by kernel_rfl) (by simp) ?_
                    refine AllReadyH.cons rfl (fun K hK => ?_) AllReadyH.nil
                    go_simp
                    refine (CV.out _ (below_drew (Below.refl wr2.heap.size wr2))).mono ?_
                    rintro e w7 ⟨x5, rfl, hin5, hout5, hw5⟩
                    obtain ⟨y1, y2⟩ := hin5 HM.out
                    obtain rfl := hw5.symm
                    clear hin5 hout5
                    refine hK.out _ _ hS (fun _ => ?_)
                    clear hK K
                    try simp only [Act.put, pL]
                    first | refine tkU 7 hS ?_ | (refine tkV 7 (v := ?_) hS ?_ ?_; rotate_left 1; · (intro w0 hSw; (try dsimp only at hSw); go_split_ands; go_simp; try with_reducible rfl)) | fail
                    try simp only [Act.put, pL]
                    first | refine tkU 8 hS ?_ | (refine tkV 8 (v := ?_) hS ?_ ?_; rotate_left 1; · (intro w0 hSw; (try dsimp only at hSw); go_split_ands; go_simp; try with_reducible rfl)) | fail
                    try simp only [Act.put, pL]
                    first | refine tkU 9 hS ?_ | (refine tkV 9 (v := ?_) hS ?_ ?_; rotate_left 1; · (intro w0 hSw; (try dsimp only at hSw); go_split_ands; go_simp; try with_reducible rfl)) | fail
                    try simp only [Act.put, pL]
                    first | refine tkU 10 hS ?_ | (refine tkV 10 (v := ?_) hS ?_ ?_; rotate_left 1; · (intro w0 hSw; (try dsimp only at hSw); go_split_ands; go_simp; try with_reducible rfl)) | fail
                    try simp only [Act.put, pL]
                    first | refine tkU 11 hS ?_ | (refine tkV 11 (v := ?_) hS ?_ ?_; rotate_left 1; · (intro w0 hSw; (try dsimp only at hSw); go_split_ands; go_simp; try with_reducible rfl)) | fail
                    try simp only [Act.put, pL]
                    first | refine tkU 12 hS ?_ | (refine tkV 12 (v := ?_) hS ?_ ?_; rotate_left 1; · (intro w0 hSw; (try dsimp only at hSw); go_split_ands; go_simp; try with_reducible rfl)) | fail
                    try simp only [Act.put, pL]
                    first | refine tkU 13 hS ?_ | (refine tkV 13 (v := ?_) hS ?_ ?_; rotate_left 1; · (intro w0 hSw; (try dsimp only at hSw); go_split_ands; go_simp; try with_reducible rfl)) | fail
                    try simp only [Act.put, pL]
                    first | refine tkU 14 hS ?_ | (refine tkV 14 (v := ?_) hS ?_ ?_; rotate_left 1; · (intro w0 hSw; (try dsimp only at hSw); go_split_ands; go_simp; try with_reducible rfl)) | fail
                    try simp only [Act.put, pL]
                    first | refine tkU 15 hS ?_ | (refine tkV 15 (v := ?_) hS ?_ ?_; rotate_left 1; · (intro w0 hSw; (try dsimp only at hSw); go_split_ands; go_simp; try with_reducible rfl)) | fail
                    try simp only [Act.put, pL]
                    first | refine tkU 16 hS ?_ | (refine tkV 16 (v := ?_) hS ?_ ?_; rotate_left 1; · (intro w0 hSw; (try dsimp only at hSw); go_split_ands; go_simp; try with_reducible rfl)) | fail
                    try simp only [Act.put, pL]
                    first | refine tkU 17 hS ?_ | (refine tkV 17 (v := ?_) hS ?_ ?_; rotate_left 1; · (intro w0 hSw; (try dsimp only at hSw); go_split_ands; go_simp; try with_reducible rfl)) | fail
                    try simp only [Act.put, pL]
                    refine wpAnyH_ready (rs := [18]) (by kernel_rfl) (by simp) ?_
                    refine AllReadyH.cons rfl (fun K hK => ?_) AllReadyH.nil
                    go_simp
                    refine (CT.out _ (below_drew (Below.refl wr2.heap.size wr2))).mono ?_
                    rintro e w8 ⟨x6, rfl, hin5, hout5, hw5⟩
                    obtain ⟨y3, y4⟩ := hout5 HM2.out
                    obtain rfl := hw5.symm
                    clear hin5 hout5
                    refine hK.out _ _ hS (fun _ => ?_)
                    clear hK K
                    try simp only [Act.put, pL]
                    first | refine tkU 19 hS ?_ | (refine tkV 19 (v := ?_) hS ?_ ?_; rotate_left 1; · (intro w0 hSw; (try dsimp only at hSw); go_split_ands; go_simp; try with_reducible rfl)) | fail
                    try simp only [Act.put, pL]
                    first | refine tkU 20 hS ?_ | (refine tkV 20 (v := ?_) hS ?_ ?_; rotate_left 1; · (intro w0 hSw; (try dsimp only at hSw); go_split_ands; go_simp; try with_reducible rfl)) | fail
                    try simp only [Act.put, pL]
                    refine wpAnyH_done (by kernel_rfl) ?_ _
                    have HBd := Aside0.mk (below_drew HBr.out)
                    clear hS
                    go_wp2_with fail
                    go_roundw
                    case rel => exact ⟨i + 1, by omega, by go_num, ⟨HV2.out (by simp)⟩, HBd, ⟨below_drew HXr.out⟩⟩
                    case measure => simp [intOf]; omega
              · have HVO : Aside0 (VarOk all vs) := ⟨fun j v hv => HJ.out j v (by have := (List.getElem?_eq_some_iff.1 hv).1; omega) hv⟩
                have g1 : decide ((i : Int) < (vs.length : Int)) = false := by rw [decide_eq_false_iff_not]; omega
                have g1n : decide (i < vs.length) = false := by rw [decide_eq_false_iff_not]; omega
                clear hin hi
                by_cases h6 : 6 < all.length
                · have HF : Aside0 (¬ P) := ⟨fun h => by rw [← HPP.out] at h; have := h.2.2.2.2.2.1; simp only at this; rw [HALL.out] at this; omega⟩
                  have n6 : decide ((all.length : Int) ≤ (6 : Int)) = false := by rw [decide_eq_false_iff_not]; omega
                  clear h6
                  go_wp2_with fail
                  go_ret
                  exact no_p HF.out (w_then HB.out HBr.out)
                · have n6 : decide ((all.length : Int) ≤ (6 : Int)) = true := by rw [decide_eq_true_eq]; omega
                  have HF : Aside0 P := ⟨by
                    rw [← HPP.out]
                    refine ⟨by show 1 ≤ ps.length; omega, by show ps.length ≤ 4; omega, by show fs.length ≤ 3; omega, HPAT.out, ?_, ?_, ?_, by show -1 ≤ lim; omega, by show lim ≤ 1000; omega, by show 0 ≤ off; omega, by show off ≤ 1000; omega⟩
                    · show ∀ (i : Nat) f, fs[i]? = some f → Lib.containsS (varsL ps) f.v = true ∧ opB f.op = true
                      rw [HALL.out]; exact HFIL.out
                    · show (varsL ps).length ≤ 6
                      rw [HALL.out]; omega
                    · have hvo : VarOk (varsL ps) vs := by rw [HALL.out]; exact HVO.out
                      exact ⟨hvo, fun h => (by first | exact HAV.out trivial | exact HAV.out h | cases h)⟩⟩
                  go_wp2_with fail
                  go_ret
                  exact yes_p HF.out (w_then HB.out HBr.out)
set_option maxRecDepth 100000 in
set_option maxHeartbeats 8000000 in
theorem refIs_any_q (HIS : IsC 24) (q : Qry) (hnar : Nar q) (w : World) (A : Option Addr) (c : Nat) (B : Option Addr) (c' : Nat) (D : Option Addr) (d : Nat) (hc : q.vars.length ≤ c) (hts : TsAt w anyB A q.vars) (hps : RowAt w B 12 q.pats (PatAt w)) (hfs : RowAt w D 3 q.fils FilAt) (hT : Tabs w) :
    Calls Tryd.prog 51 #[.agg #[.bool q.ask, .slice A q.vars.length c, .slice B q.pats.length c', .slice D q.fils.length d, .int .i64 q.lim, .int .i64 q.off]] w (AreP w (IsQ q)) := by
  obtain ⟨hn1, hn2, hn3, hn4⟩ := hnar
  obtain ⟨P, hP⟩ : ∃ P, IsQ q = P := ⟨_, rfl⟩
  rw [hP]
  obtain ⟨ask, vs, ps, fs, lim, off⟩ := q
  simp only at hn1 hn2 hn3 hn4 hc hts hps hfs ⊢
  have HPP := Aside0.mk hP
  obtain ⟨wb, hwb, HB, HN⟩ := boxQ w ask A vs.length c B ps.length c' D fs.length d lim off
  have HHW := Aside0.mk hwb.symm
  have HTS : Aside0 (TsAt wb anyB A vs) := ⟨hts.move (fun g _ hg => HB.out.block g hg)⟩
  have HPS := Aside0.mk (hps.below HB.out (fun a cs h => h.below HB.out))
  have HFS := Aside0.mk (hfs.below HB.out (fun a cs h => h))
  have HNR := Aside0.mk hn4
  have HIP := Aside0.mk HIS
  have HTb := Aside0.mk (hT.below HB.out)
  clear hwb hts hps hfs hn4 HIS hT hP
  by_cases hp1 : ps.length < 1
  · have HF : Aside0 (¬ IsQ ⟨ask, vs, ps, fs, lim, off⟩) := ⟨fun h => by have := h.1; simp only at this; omega⟩
    have n0 : decide ((ps.length : Int) < (1 : Int)) = true := by rw [decide_eq_true_eq]; omega
    go_enter Tryd.func51, Tryd.ntmps51
    go_upto_region 1 with (fail)
    rw [HHW.out]
    have q1 := blk_cell HN.out 1; have q2 := blk_cell HN.out 2; have q3 := blk_cell HN.out 3; have q4 := blk_cell HN.out 4; have q5 := blk_cell HN.out 5; have q0 := blk_cell HN.out 0; simp at q0 q1 q2 q3 q4 q5
    go_wp2_with fail
    go_ret
    exact are_no HPP.out HF.out HB.out
  by_cases hp4 : 4 < ps.length
  · have HF : Aside0 (¬ IsQ ⟨ask, vs, ps, fs, lim, off⟩) := ⟨fun h => by have := h.2.1; simp only at this; omega⟩
    have n0 : decide ((ps.length : Int) < (1 : Int)) = false := by rw [decide_eq_false_iff_not]; omega
    have n1 : decide ((4 : Int) < (ps.length : Int)) = true := by rw [decide_eq_true_eq]; omega
    go_enter Tryd.func51, Tryd.ntmps51
    go_upto_region 1 with (fail)
    rw [HHW.out]
    have q1 := blk_cell HN.out 1; have q2 := blk_cell HN.out 2; have q3 := blk_cell HN.out 3; have q4 := blk_cell HN.out 4; have q5 := blk_cell HN.out 5; have q0 := blk_cell HN.out 0; simp at q0 q1 q2 q3 q4 q5
    go_wp2_with fail
    go_ret
    exact are_no HPP.out HF.out HB.out
  by_cases hf3 : 3 < fs.length
  · have HF : Aside0 (¬ IsQ ⟨ask, vs, ps, fs, lim, off⟩) := ⟨fun h => by have := h.2.2.1; simp only at this; omega⟩
    have n0 : decide ((ps.length : Int) < (1 : Int)) = false := by rw [decide_eq_false_iff_not]; omega
    have n1 : decide ((4 : Int) < (ps.length : Int)) = false := by rw [decide_eq_false_iff_not]; omega
    have n2 : decide ((3 : Int) < (fs.length : Int)) = true := by rw [decide_eq_true_eq]; omega
    go_enter Tryd.func51, Tryd.ntmps51
    go_upto_region 1 with (fail)
    rw [HHW.out]
    have q1 := blk_cell HN.out 1; have q2 := blk_cell HN.out 2; have q3 := blk_cell HN.out 3; have q4 := blk_cell HN.out 4; have q5 := blk_cell HN.out 5; have q0 := blk_cell HN.out 0; simp at q0 q1 q2 q3 q4 q5
    go_wp2_with fail
    go_ret
    exact are_no HPP.out HF.out HB.out
  by_cases hl1 : lim < -1
  · have HF : Aside0 (¬ IsQ ⟨ask, vs, ps, fs, lim, off⟩) := ⟨fun h => by have := h.2.2.2.2.2.2.2.1; simp only at this; omega⟩
    have n0 : decide ((ps.length : Int) < (1 : Int)) = false := by rw [decide_eq_false_iff_not]; omega
    have n1 : decide ((4 : Int) < (ps.length : Int)) = false := by rw [decide_eq_false_iff_not]; omega
    have n2 : decide ((3 : Int) < (fs.length : Int)) = false := by rw [decide_eq_false_iff_not]; omega
    have n3 : decide (lim < (-1 : Int)) = true := by rw [decide_eq_true_eq]; omega
    go_enter Tryd.func51, Tryd.ntmps51
    go_upto_region 1 with (fail)
    rw [HHW.out]
    have q1 := blk_cell HN.out 1; have q2 := blk_cell HN.out 2; have q3 := blk_cell HN.out 3; have q4 := blk_cell HN.out 4; have q5 := blk_cell HN.out 5; have q0 := blk_cell HN.out 0; simp at q0 q1 q2 q3 q4 q5
    go_wp2_with fail
    go_ret
    exact are_no HPP.out HF.out HB.out
  by_cases hl2 : 1000 < lim
  · have HF : Aside0 (¬ IsQ ⟨ask, vs, ps, fs, lim, off⟩) := ⟨fun h => by have := h.2.2.2.2.2.2.2.2.1; simp only at this; omega⟩
    have n0 : decide ((ps.length : Int) < (1 : Int)) = false := by rw [decide_eq_false_iff_not]; omega
    have n1 : decide ((4 : Int) < (ps.length : Int)) = false := by rw [decide_eq_false_iff_not]; omega
    have n2 : decide ((3 : Int) < (fs.length : Int)) = false := by rw [decide_eq_false_iff_not]; omega
    have n3 : decide (lim < (-1 : Int)) = false := by rw [decide_eq_false_iff_not]; omega
    have n4 : decide ((1000 : Int) < lim) = true := by rw [decide_eq_true_eq]; omega
    go_enter Tryd.func51, Tryd.ntmps51
    go_upto_region 1 with (fail)
    rw [HHW.out]
    have q1 := blk_cell HN.out 1; have q2 := blk_cell HN.out 2; have q3 := blk_cell HN.out 3; have q4 := blk_cell HN.out 4; have q5 := blk_cell HN.out 5; have q0 := blk_cell HN.out 0; simp at q0 q1 q2 q3 q4 q5
    go_wp2_with fail
    go_ret
    exact are_no HPP.out HF.out HB.out
  by_cases ho1 : off < 0
  · have HF : Aside0 (¬ IsQ ⟨ask, vs, ps, fs, lim, off⟩) := ⟨fun h => by have := h.2.2.2.2.2.2.2.2.2.1; simp only at this; omega⟩
    have n0 : decide ((ps.length : Int) < (1 : Int)) = false := by rw [decide_eq_false_iff_not]; omega
    have n1 : decide ((4 : Int) < (ps.length : Int)) = false := by rw [decide_eq_false_iff_not]; omega
    have n2 : decide ((3 : Int) < (fs.length : Int)) = false := by rw [decide_eq_false_iff_not]; omega
    have n3 : decide (lim < (-1 : Int)) = false := by rw [decide_eq_false_iff_not]; omega
    have n4 : decide ((1000 : Int) < lim) = false := by rw [decide_eq_false_iff_not]; omega
    have n5 : decide (off < (0 : Int)) = true := by rw [decide_eq_true_eq]; omega
    go_enter Tryd.func51, Tryd.ntmps51
    go_upto_region 1 with (fail)
    rw [HHW.out]
    have q1 := blk_cell HN.out 1; have q2 := blk_cell HN.out 2; have q3 := blk_cell HN.out 3; have q4 := blk_cell HN.out 4; have q5 := blk_cell HN.out 5; have q0 := blk_cell HN.out 0; simp at q0 q1 q2 q3 q4 q5
    go_wp2_with fail
    go_ret
    exact are_no HPP.out HF.out HB.out
  by_cases ho2 : 1000 < off
  · have HF : Aside0 (¬ IsQ ⟨ask, vs, ps, fs, lim, off⟩) := ⟨fun h => by have := h.2.2.2.2.2.2.2.2.2.2; simp only at this; omega⟩
    have n0 : decide ((ps.length : Int) < (1 : Int)) = false := by rw [decide_eq_false_iff_not]; omega
    have n1 : decide ((4 : Int) < (ps.length : Int)) = false := by rw [decide_eq_false_iff_not]; omega
    have n2 : decide ((3 : Int) < (fs.length : Int)) = false := by rw [decide_eq_false_iff_not]; omega
    have n3 : decide (lim < (-1 : Int)) = false := by rw [decide_eq_false_iff_not]; omega
    have n4 : decide ((1000 : Int) < lim) = false := by rw [decide_eq_false_iff_not]; omega
    have n5 : decide (off < (0 : Int)) = false := by rw [decide_eq_false_iff_not]; omega
    have n6 : decide ((1000 : Int) < off) = true := by rw [decide_eq_true_eq]; omega
    go_enter Tryd.func51, Tryd.ntmps51
    go_upto_region 1 with (fail)
    rw [HHW.out]
    have q1 := blk_cell HN.out 1; have q2 := blk_cell HN.out 2; have q3 := blk_cell HN.out 3; have q4 := blk_cell HN.out 4; have q5 := blk_cell HN.out 5; have q0 := blk_cell HN.out 0; simp at q0 q1 q2 q3 q4 q5
    go_wp2_with fail
    go_ret
    exact are_no HPP.out HF.out HB.out
  have n0 : decide ((ps.length : Int) < (1 : Int)) = false := by rw [decide_eq_false_iff_not]; omega
  have n1 : decide ((4 : Int) < (ps.length : Int)) = false := by rw [decide_eq_false_iff_not]; omega
  have n2 : decide ((3 : Int) < (fs.length : Int)) = false := by rw [decide_eq_false_iff_not]; omega
  have n3 : decide (lim < (-1 : Int)) = false := by rw [decide_eq_false_iff_not]; omega
  have n4 : decide ((1000 : Int) < lim) = false := by rw [decide_eq_false_iff_not]; omega
  have n5 : decide (off < (0 : Int)) = false := by rw [decide_eq_false_iff_not]; omega
  have n6 : decide ((1000 : Int) < off) = false := by rw [decide_eq_false_iff_not]; omega
  by_cases hav : ask = true ∧ 0 < vs.length
  · have HF : Aside0 (¬ IsQ ⟨ask, vs, ps, fs, lim, off⟩) := ⟨fun h => by have := h.2.2.2.2.2.2.1.2 hav.1; simp only at this; omega⟩
    obtain ⟨rfl, hv0⟩ := hav
    have m1 : decide ((0 : Int) < (vs.length : Int)) = true := by rw [decide_eq_true_eq]; omega
    have m1n : decide (0 < vs.length) = true := by rw [decide_eq_true_eq]; omega
    clear hv0
    go_enter Tryd.func51, Tryd.ntmps51
    go_upto_region 1 with (fail)
    rw [HHW.out]
    have q1 := blk_cell HN.out 1; have q2 := blk_cell HN.out 2; have q3 := blk_cell HN.out 3; have q4 := blk_cell HN.out 4; have q5 := blk_cell HN.out 5; have q0 := blk_cell HN.out 0; simp at q0 q1 q2 q3 q4 q5
    go_wp2_with fail
    go_ret
    exact are_no HPP.out HF.out HB.out
  have HAV : Aside0 (ask = true → vs.length = 0) := ⟨fun h => by
    by_cases h0 : 0 < vs.length
    · exact absurd ⟨h, h0⟩ hav
    · omega⟩
  clear hav n0 n1 n2 n3 n4 n5 n6
  exact refIs_rest ask ps fs vs lim off P w wb HPP.out HB.out A c B c' D d HN.out HHW.out HTS.out HPS.out HFS.out HNR.out HIP.out HTb.out hc hn1 hn2 hn3 hp1 hp4 hf3 hl1 hl2 ho1 ho2 HAV.out
end Go.Proofs.YtbaegfjoionojaaDoor.Qy
