/- The walk of query.Is. -/
import Derived.Test.YtbaegfjoionojaaDoorQvI
import Derived.Test.YtbaegfjoionojaaDoorQvD
set_option linter.unusedSimpArgs false
set_option linter.unusedVariables false
namespace Go.Proofs.YtbaegfjoionojaaDoor.Qy
open Go Go.RowKit Go.Proofs.YtbaegfjoionojaaDoor.Tm Go.Proofs.YtbaegfjoionojaaDoorW.PrintWords

/-- May a query be? -/
def IsQ (q : Qry) : Prop := 1 ≤ q.pats.length ∧ q.pats.length ≤ 4 ∧ q.fils.length ≤ 3 ∧ (∀ (i : Nat) p, q.pats[i]? = some p → endB p.s = true ∧ endB p.o = true ∧ isP p.p = true) ∧
  (∀ (i : Nat) f, q.fils[i]? = some f → Lib.containsS (varsL q.pats) f.v = true ∧ opB f.op = true) ∧ (varsL q.pats).length ≤ 6 ∧ (VarOk (varsL q.pats) q.vars ∧ (q.ask = true → q.vars.length = 0)) ∧ -1 ≤ q.lim ∧ q.lim ≤ 1000 ∧ 0 ≤ q.off ∧ q.off ≤ 1000
def IsC (fn : Nat) : Prop := ∀ (p : Pth) (W : World) (k : Int) (t : ByteArray) (A : Option Addr) (n c : Nat) (B : Option Addr) (m e : Nat), bigP p 0 = false → PathAt W anyB p [.int .i64 k, .string t, .slice A n c, .slice B m e] → Tabs W → Calls Tryd.prog fn #[.agg #[.int .i64 k, .string t, .slice A n c, .slice B m e]] W fun e w' => e = .returned (.bool (isP p)) ∧ Below W.heap.size W w'
theorem are_no {w w' : World} {P Q : Prop} (hP : Q = P) (h : ¬ Q) (hb : Below w.heap.size w w') : AreP w P (.returned (.bool false)) w' := ⟨false, rfl, ⟨fun h => (by cases h), fun h2 => absurd (hP ▸ h2) h⟩, hb⟩
theorem are_yes {w w' : World} {P Q : Prop} (hP : Q = P) (h : Q) (hb : Below w.heap.size w w') : AreP w P (.returned (.bool true)) w' := ⟨true, rfl, ⟨fun _ => hP ▸ h, fun _ => rfl⟩, hb⟩
theorem nar_sizes {p : Pat} (h : NarP p) : (p.s.v.size ≤ 1000 ∧ p.s.tm.t.size ≤ 1000 ∧ p.s.tm.x.size ≤ 1000) ∧ (p.o.v.size ≤ 1000 ∧ p.o.tm.t.size ≤ 1000 ∧ p.o.tm.x.size ≤ 1000) := by
  have := h.2
  omega
set_option maxRecDepth 100000 in
set_option maxHeartbeats 8000000 in
theorem is_any_q (HIS : IsC 32) (q : Qry) (hnar : Nar q) (w : World) (A : Option Addr) (c : Nat) (B : Option Addr) (c' : Nat) (D : Option Addr) (d : Nat) (hc : q.vars.length ≤ c) (hts : TsAt w anyB A q.vars) (hps : RowAt w B 12 q.pats (PatAt w)) (hfs : RowAt w D 3 q.fils FilAt) (hT : Tabs w) :
    Calls Tryd.prog 50 #[.agg #[.bool q.ask, .slice A q.vars.length c, .slice B q.pats.length c', .slice D q.fils.length d, .int .i64 q.lim, .int .i64 q.off]] w (AreP w (IsQ q)) := by
  obtain ⟨hn1, hn2, hn3, hn4⟩ := hnar
  obtain ⟨P, hP⟩ : ∃ P, IsQ q = P := ⟨_, rfl⟩
  rw [hP]
  obtain ⟨ask, vs, ps, fs, lim, off⟩ := q
  simp only at hn1 hn2 hn3 hn4 hc hts hps hfs ⊢
  have HPP := Aside0.mk hP
  obtain ⟨wb, hwb, HB, HN⟩ := boxQ w ask A vs.length c B ps.length c' D fs.length d lim off
  have HHW := Aside0.mk hwb.symm
  have HTS : Aside0 (TsAt wb anyB A vs) := ⟨hts.move (fun g _ hg => HB.out.block g hg)⟩
  have HPS := Aside0.mk (hps.below HB.out (fun a cs h => h.below HB.out))
  have HFS := Aside0.mk (hfs.below HB.out (fun a cs h => h))
  have HNR := Aside0.mk hn4
  have HIP := Aside0.mk HIS
  have HTb := Aside0.mk (hT.below HB.out)
  clear hwb hts hps hfs hn4 HIS hT hP
  by_cases hp1 : ps.length < 1
  · have HF : Aside0 (¬ IsQ ⟨ask, vs, ps, fs, lim, off⟩) := ⟨fun h => by have := h.1; simp only at this; omega⟩
    have n1 : decide ((ps.length : Int) < (1 : Int)) = true := by rw [decide_eq_true_eq]; omega
    clear hp1
    go_enter Tryd.func50, Tryd.ntmps50
    go_upto_region 1 with (fail)
    rw [HHW.out]
    have q1 := blk_cell HN.out 1; have q2 := blk_cell HN.out 2; have q3 := blk_cell HN.out 3; have q4 := blk_cell HN.out 4; have q5 := blk_cell HN.out 5; have q0 := blk_cell HN.out 0; simp at q0 q1 q2 q3 q4 q5
    go_wp2_with fail
    go_ret
    exact are_no HPP.out HF.out HB.out
  by_cases hp4 : 4 < ps.length
  · have HF : Aside0 (¬ IsQ ⟨ask, vs, ps, fs, lim, off⟩) := ⟨fun h => by have := h.2.1; simp only at this; omega⟩
    have n1 : decide ((ps.length : Int) < (1 : Int)) = false := by rw [decide_eq_false_iff_not]; omega
    have n2 : decide ((4 : Int) < (ps.length : Int)) = true := by rw [decide_eq_true_eq]; omega
    clear hp1 hp4
    go_enter Tryd.func50, Tryd.ntmps50
    go_upto_region 1 with (fail)
    rw [HHW.out]
    have q1 := blk_cell HN.out 1; have q2 := blk_cell HN.out 2; have q3 := blk_cell HN.out 3; have q4 := blk_cell HN.out 4; have q5 := blk_cell HN.out 5; have q0 := blk_cell HN.out 0; simp at q0 q1 q2 q3 q4 q5
    go_wp2_with fail
    go_ret
    exact are_no HPP.out HF.out HB.out
  by_cases hf3 : 3 < fs.length
  · have HF : Aside0 (¬ IsQ ⟨ask, vs, ps, fs, lim, off⟩) := ⟨fun h => by have := h.2.2.1; simp only at this; omega⟩
    have n1 : decide ((ps.length : Int) < (1 : Int)) = false := by rw [decide_eq_false_iff_not]; omega
    have n2 : decide ((4 : Int) < (ps.length : Int)) = false := by rw [decide_eq_false_iff_not]; omega
    have n3 : decide ((3 : Int) < (fs.length : Int)) = true := by rw [decide_eq_true_eq]; omega
    clear hp1 hp4 hf3
    go_enter Tryd.func50, Tryd.ntmps50
    go_upto_region 1 with (fail)
    rw [HHW.out]
    have q1 := blk_cell HN.out 1; have q2 := blk_cell HN.out 2; have q3 := blk_cell HN.out 3; have q4 := blk_cell HN.out 4; have q5 := blk_cell HN.out 5; have q0 := blk_cell HN.out 0; simp at q0 q1 q2 q3 q4 q5
    go_wp2_with fail
    go_ret
    exact are_no HPP.out HF.out HB.out
  have n1 : decide ((ps.length : Int) < (1 : Int)) = false := by rw [decide_eq_false_iff_not]; omega
  have n2 : decide ((4 : Int) < (ps.length : Int)) = false := by rw [decide_eq_false_iff_not]; omega
  have n3 : decide ((3 : Int) < (fs.length : Int)) = false := by rw [decide_eq_false_iff_not]; omega
  go_enter Tryd.func50, Tryd.ntmps50
  go_upto_region 1 with (fail)
  rw [HHW.out]
  have q1 := blk_cell HN.out 1; have q2 := blk_cell HN.out 2; have q3 := blk_cell HN.out 3; have q4 := blk_cell HN.out 4; have q5 := blk_cell HN.out 5; have q0 := blk_cell HN.out 0; simp at q0 q1 q2 q3 q4 q5
  go_wp2_with fail
  clear n1 n2 n3 q0 q1 q2 q3 q4 q5
  go_loopw [27] (fun u wr => ∃ i : Nat, i ≤ ps.length ∧ u = .int .i64 i ∧ Aside0 (∀ (j : Nat) p, j < i → ps[j]? = some p → endB p.s = true ∧ endB p.o = true ∧ isP p.p = true) ∧ Aside0 (Below wb.heap.size wb wr)) (fun u _ => ps.length - (intOf u).toNat)
  case atStart => exact ⟨0, by omega, rfl, ⟨fun j p h => by omega⟩, ⟨Below.refl _ _⟩⟩
  case round =>
    obtain ⟨wv, rfl⟩ : ∃ x, x = wr := ⟨wr, rfl⟩
    obtain ⟨i, hi, rfl, HJ, HBv⟩ := hrel
    by_cases hin : i < ps.length
    · obtain ⟨p, hp⟩ : ∃ p, ps[i]? = some p := ⟨ps[i]'hin, List.getElem?_eq_getElem _⟩
      obtain ⟨pb, po, cs, rfl, hcl, hpa⟩ := HPS.out.below HBv.out (fun a cs h => h.below HBv.out) i p hp
      obtain ⟨k, t, A5, n5, c5, B5, m5, d5, hpp, rfl⟩ := pat_cells hpa
      have hnp := HNR.out p (List.mem_of_getElem? hp)
      obtain ⟨⟨s1, s2, s3⟩, s4, s5, s6⟩ := nar_sizes hnp
      have hbg := hnp.1
      obtain ⟨⟨v1, ⟨k1, t1, x1⟩⟩, pp, ⟨v2, ⟨k2, t2, x2⟩⟩⟩ := p
      simp only at hpp hcl s1 s2 s3 s4 s5 s6 hbg
      have a0 := hcl 0 _ rfl
      have a1 := hcl 1 _ rfl
      have a2 := hcl 2 _ rfl
      have a3 := hcl 3 _ rfl
      have a4 := hcl 4 _ rfl
      have a5 := hcl 5 _ rfl
      have a6 := hcl 6 _ rfl
      have a7 := hcl 7 _ rfl
      have a8 := hcl 8 _ rfl
      have a9 := hcl 9 _ rfl
      have a10 := hcl 10 _ rfl
      have a11 := hcl 11 _ rfl
      simp only [Nat.add_zero] at a0
      have g0 : (0 : Int) ≤ (i : Int) := by omega
      have g1 : (i : Int) < (ps.length : Int) := by omega
      obtain ⟨wy, hwy, HY, HNy, hsy⟩ := boxO wv #[.string v1, .int .i64 k1, .string t1, .string x1, .int .i64 k, .string t, .slice A5 n5 c5, .slice B5 m5 d5, .string v2, .int .i64 k2, .string t2, .string x2] 78
      have HHY := Aside0.mk hwy.symm
      have HZ : Aside0 (∀ W, Below wy.heap.size wy W → W.cell? ⟨wv.heap.size, 0, none⟩ = some (.string v1) ∧ W.cell? ⟨wv.heap.size, 1, none⟩ = some (.int .i64 k1) ∧ W.cell? ⟨wv.heap.size, 2, none⟩ = some (.string t1) ∧ W.cell? ⟨wv.heap.size, 3, none⟩ = some (.string x1) ∧ W.cell? ⟨wv.heap.size, 4, none⟩ = some (.int .i64 k) ∧ W.cell? ⟨wv.heap.size, 5, none⟩ = some (.string t) ∧ W.cell? ⟨wv.heap.size, 6, none⟩ = some (.slice A5 n5 c5) ∧ W.cell? ⟨wv.heap.size, 7, none⟩ = some (.slice B5 m5 d5) ∧ W.cell? ⟨wv.heap.size, 8, none⟩ = some (.string v2) ∧ W.cell? ⟨wv.heap.size, 9, none⟩ = some (.int .i64 k2) ∧ W.cell? ⟨wv.heap.size, 10, none⟩ = some (.string t2) ∧ W.cell? ⟨wv.heap.size, 11, none⟩ = some (.string x2)) := ⟨fun W h => pat12 (blk_below HNy.out h)⟩
      have HB0 : Aside0 (Below wy.heap.size wy wy) := ⟨Below.refl _ _⟩
      have HBy := Aside0.mk (below_then HBv.out HBv.out.size HY.out)
      have hTy := HTb.out.below HBy.out
      have C1 : Aside0 (∀ W, Below wy.heap.size wy W → Calls Tryd.prog 79 #[.agg #[.string v1, .int .i64 k1, .string t1, .string x1]] W fun e w' => e = .returned (.bool (endB ⟨v1, ⟨k1, t1, x1⟩⟩)) ∧ Below W.heap.size W w') := ⟨fun W h => isEnd_any ⟨v1, ⟨k1, t1, x1⟩⟩ s1 s2 s3 W (hTy.below h)⟩
      have C2 : Aside0 (∀ W, Below wy.heap.size wy W → Calls Tryd.prog 79 #[.agg #[.string v2, .int .i64 k2, .string t2, .string x2]] W fun e w' => e = .returned (.bool (endB ⟨v2, ⟨k2, t2, x2⟩⟩)) ∧ Below W.heap.size W w') := ⟨fun W h => isEnd_any ⟨v2, ⟨k2, t2, x2⟩⟩ s4 s5 s6 W (hTy.below h)⟩
      have CP : Aside0 (∀ W, Below wy.heap.size wy W → Calls Tryd.prog 32 #[.agg #[.int .i64 k, .string t, .slice A5 n5 c5, .slice B5 m5 d5]] W fun e w' => e = .returned (.bool (isP pp)) ∧ Below W.heap.size W w') := ⟨fun W h => HIP.out pp W _ _ _ _ _ _ _ _ hbg ((hpp.below HY.out).below h) (hTy.below h)⟩
      obtain ⟨b1, hb1⟩ : ∃ b, endB ⟨v1, ⟨k1, t1, x1⟩⟩ = b := ⟨_, rfl⟩
      obtain ⟨b2, hb2⟩ : ∃ b, endB ⟨v2, ⟨k2, t2, x2⟩⟩ = b := ⟨_, rfl⟩
      obtain ⟨b3, hb3⟩ : ∃ b, isP pp = b := ⟨_, rfl⟩
      have HA : Aside0 ((∀ (i : Nat) p, ps[i]? = some p → endB p.s = true ∧ endB p.o = true ∧ isP p.p = true) → b1 = true ∧ b2 = true ∧ b3 = true) := ⟨fun h => by
        have := h i _ hp
        simp only at this
        rwa [hb1, hb2, hb3] at this⟩
      have HA2 : Aside0 (b1 = true ∧ b2 = true ∧ b3 = true → ∀ (j : Nat) p, j < i + 1 → ps[j]? = some p → endB p.s = true ∧ endB p.o = true ∧ isP p.p = true) := ⟨fun hb j p hj hpj => by
        by_cases e : j = i
        · subst e
          obtain rfl := Option.some.inj (hp.symm.trans hpj)
          show endB ⟨v1, ⟨k1, t1, x1⟩⟩ = true ∧ endB ⟨v2, ⟨k2, t2, x2⟩⟩ = true ∧ isP pp = true
          rw [hb1, hb2, hb3]
          exact hb
        · exact HJ.out j p (by omega) hpj⟩
      rw [hb1] at C1
      rw [hb2] at C2
      rw [hb3] at CP
      clear hcl hp hpa hpp hnp hbg hTy hwy hsy hb1 hb2 hb3 s1 s2 s3 s4 s5 s6
      cases b1 with
      | false =>
        have HF : Aside0 (¬ IsQ ⟨ask, vs, ps, fs, lim, off⟩) := ⟨fun h => by exact absurd (HA.out h.2.2.2.1) (by simp)⟩
        go_upto_region 6 with (fail)
        rw [HHY.out]
        obtain ⟨z0, z1, z2, z3, z4, z5, z6, z7, z8, z9, z10, z11⟩ := HZ.out _ HB0.out
        clear a0 a1 a2 a3 a4 a5 a6 a7 a8 a9 a10 a11
        go_wp2_with (go_at_call 79; (with_reducible refine (C1.out _ HB0.out).mono ?_); rintro e w1 ⟨rfl, hb⟩; have HB1 := Aside0.mk (below_then HB0.out HB0.out.size hb); clear hb z0 z1 z2 z3 z4 z5 z6 z7 z8 z9 z10 z11; obtain ⟨z0, z1, z2, z3, z4, z5, z6, z7, z8, z9, z10, z11⟩ := HZ.out _ HB1.out)
        go_ret
        exact are_no HPP.out HF.out (w_then HB.out (HBy.out.trans (HB1.out.mono HBy.out.size)))
      | true =>
        cases b2 with
        | false =>
          have HF : Aside0 (¬ IsQ ⟨ask, vs, ps, fs, lim, off⟩) := ⟨fun h => by exact absurd (HA.out h.2.2.2.1) (by simp)⟩
          go_upto_region 6 with (fail)
          rw [HHY.out]
          obtain ⟨z0, z1, z2, z3, z4, z5, z6, z7, z8, z9, z10, z11⟩ := HZ.out _ HB0.out
          clear a0 a1 a2 a3 a4 a5 a6 a7 a8 a9 a10 a11
          go_wp2_with (first
            | (go_at_call 79; (with_reducible refine (C1.out _ HB0.out).mono ?_); rintro e w1 ⟨rfl, hb⟩; have HB1 := Aside0.mk (below_then HB0.out HB0.out.size hb); clear hb z0 z1 z2 z3 z4 z5 z6 z7 z8 z9 z10 z11; obtain ⟨z0, z1, z2, z3, z4, z5, z6, z7, z8, z9, z10, z11⟩ := HZ.out _ HB1.out)
            | (go_at_call 79; (with_reducible refine (C2.out _ HB1.out).mono ?_); rintro e w2 ⟨rfl, hb⟩; have HB2 := Aside0.mk (below_then HB1.out HB1.out.size hb); clear hb z0 z1 z2 z3 z4 z5 z6 z7 z8 z9 z10 z11; obtain ⟨z0, z1, z2, z3, z4, z5, z6, z7, z8, z9, z10, z11⟩ := HZ.out _ HB2.out))
          go_ret
          exact are_no HPP.out HF.out (w_then HB.out (HBy.out.trans (HB2.out.mono HBy.out.size)))
        | true =>
          cases b3 with
          | false =>
            have HF : Aside0 (¬ IsQ ⟨ask, vs, ps, fs, lim, off⟩) := ⟨fun h => by exact absurd (HA.out h.2.2.2.1) (by simp)⟩
            go_upto_region 6 with (fail)
            rw [HHY.out]
            obtain ⟨z0, z1, z2, z3, z4, z5, z6, z7, z8, z9, z10, z11⟩ := HZ.out _ HB0.out
            clear a0 a1 a2 a3 a4 a5 a6 a7 a8 a9 a10 a11
            go_wp2_with (first
              | (go_at_call 79; (with_reducible refine (C1.out _ HB0.out).mono ?_); rintro e w1 ⟨rfl, hb⟩; have HB1 := Aside0.mk (below_then HB0.out HB0.out.size hb); clear hb z0 z1 z2 z3 z4 z5 z6 z7 z8 z9 z10 z11; obtain ⟨z0, z1, z2, z3, z4, z5, z6, z7, z8, z9, z10, z11⟩ := HZ.out _ HB1.out)
              | (go_at_call 79; (with_reducible refine (C2.out _ HB1.out).mono ?_); rintro e w2 ⟨rfl, hb⟩; have HB2 := Aside0.mk (below_then HB1.out HB1.out.size hb); clear hb z0 z1 z2 z3 z4 z5 z6 z7 z8 z9 z10 z11; obtain ⟨z0, z1, z2, z3, z4, z5, z6, z7, z8, z9, z10, z11⟩ := HZ.out _ HB2.out)
              | (go_at_call 32; (with_reducible refine (CP.out _ HB2.out).mono ?_); rintro e w3 ⟨rfl, hb⟩; have HB3 := Aside0.mk (below_then HB2.out HB2.out.size hb); clear hb z0 z1 z2 z3 z4 z5 z6 z7 z8 z9 z10 z11; obtain ⟨z0, z1, z2, z3, z4, z5, z6, z7, z8, z9, z10, z11⟩ := HZ.out _ HB3.out))
            go_ret
            exact are_no HPP.out HF.out (w_then HB.out (HBy.out.trans (HB3.out.mono HBy.out.size)))
          | true =>
            go_upto_region 6 with (fail)
            rw [HHY.out]
            obtain ⟨z0, z1, z2, z3, z4, z5, z6, z7, z8, z9, z10, z11⟩ := HZ.out _ HB0.out
            clear a0 a1 a2 a3 a4 a5 a6 a7 a8 a9 a10 a11
            go_wp2_with (first
              | (go_at_call 79; (with_reducible refine (C1.out _ HB0.out).mono ?_); rintro e w1 ⟨rfl, hb⟩; have HB1 := Aside0.mk (below_then HB0.out HB0.out.size hb); clear hb z0 z1 z2 z3 z4 z5 z6 z7 z8 z9 z10 z11; obtain ⟨z0, z1, z2, z3, z4, z5, z6, z7, z8, z9, z10, z11⟩ := HZ.out _ HB1.out)
              | (go_at_call 79; (with_reducible refine (C2.out _ HB1.out).mono ?_); rintro e w2 ⟨rfl, hb⟩; have HB2 := Aside0.mk (below_then HB1.out HB1.out.size hb); clear hb z0 z1 z2 z3 z4 z5 z6 z7 z8 z9 z10 z11; obtain ⟨z0, z1, z2, z3, z4, z5, z6, z7, z8, z9, z10, z11⟩ := HZ.out _ HB2.out)
              | (go_at_call 32; (with_reducible refine (CP.out _ HB2.out).mono ?_); rintro e w3 ⟨rfl, hb⟩; have HB3 := Aside0.mk (below_then HB2.out HB2.out.size hb); clear hb z0 z1 z2 z3 z4 z5 z6 z7 z8 z9 z10 z11; obtain ⟨z0, z1, z2, z3, z4, z5, z6, z7, z8, z9, z10, z11⟩ := HZ.out _ HB3.out))
            go_roundw
            case rel => exact ⟨i + 1, by omega, by go_num, ⟨HA2.out (by simp)⟩, ⟨HBy.out.trans (HB3.out.mono HBy.out.size)⟩⟩
            case measure => simp [intOf]; omega
    · have HPAT : Aside0 (∀ (i : Nat) p, ps[i]? = some p → endB p.s = true ∧ endB p.o = true ∧ isP p.p = true) := ⟨fun j p hp => HJ.out j p (by have := (List.getElem?_eq_some_iff.1 hp).1; omega) hp⟩
      have q1 := blk_cell (blk_below HN.out HBv.out) 1; have q2 := blk_cell (blk_below HN.out HBv.out) 2; have q3 := blk_cell (blk_below HN.out HBv.out) 3; have q4 := blk_cell (blk_below HN.out HBv.out) 4; have q5 := blk_cell (blk_below HN.out HBv.out) 5; have q0 := blk_cell (blk_below HN.out HBv.out) 0; simp at q0 q1 q2 q3 q4 q5
      have CV := Aside0.mk (vars_any ⟨ask, vs, ps, fs, lim, off⟩ wv A c B c' D d (HPS.out.below HBv.out (fun a cs h => h.below HBv.out)) (by show ps.length ≤ 1000; omega))
      have hvl := varsL_len ps ps.length (Nat.le_refl _)
      rw [List.take_length] at hvl
      obtain ⟨all, hall⟩ : ∃ l, varsL ps = l := ⟨_, rfl⟩
      have HALL := Aside0.mk hall
      simp only at CV
      rw [hall] at CV hvl
      have g1 : decide ((i : Int) < (ps.length : Int)) = false := by rw [decide_eq_false_iff_not]; omega
      have g1n : decide (i < ps.length) = false := by rw [decide_eq_false_iff_not]; omega
      clear hin hi hall
      go_wp2_with (go_at_call 48; (with_reducible refine CV.out.mono ?_); rintro e wx ⟨E, ec, rfl, hle, hte, hb⟩; have HBx := Aside0.mk (below_then HBv.out HBv.out.size hb); have HTE := Aside0.mk hte; clear hb hte q0 q1 q2 q3 q4 q5; have q1 := blk_cell (blk_below HN.out HBx.out) 1; have q2 := blk_cell (blk_below HN.out HBx.out) 2; have q3 := blk_cell (blk_below HN.out HBx.out) 3; have q4 := blk_cell (blk_below HN.out HBx.out) 4; have q5 := blk_cell (blk_below HN.out HBx.out) 5; have q0 := blk_cell (blk_below HN.out HBx.out) 0; simp at q0 q1 q2 q3 q4 q5)
      clear g1 g1n
      go_loopw [53] (fun u wr => ∃ i : Nat, i ≤ fs.length ∧ u = .int .i64 i ∧ Aside0 (∀ (j : Nat) f, j < i → fs[j]? = some f → Lib.containsS all f.v = true ∧ opB f.op = true) ∧ Aside0 (Below wx.heap.size wx wr)) (fun u _ => fs.length - (intOf u).toNat)
      case atStart => exact ⟨0, by omega, rfl, ⟨fun j p h => by omega⟩, ⟨Below.refl _ _⟩⟩
      case round =>
        clear q0 q1 q2 q3 q4 q5
        obtain ⟨wu, rfl⟩ : ∃ x, x = wr := ⟨wr, rfl⟩
        obtain ⟨i, hi, rfl, HJ, HBu⟩ := hrel
        have HBU := Aside0.mk (HBx.out.trans (HBu.out.mono HBx.out.size))
        by_cases hin : i < fs.length
        · obtain ⟨f, hf⟩ : ∃ f, fs[i]? = some f := ⟨fs[i]'hin, List.getElem?_eq_getElem _⟩
          obtain ⟨fb, fo, cs, rfl, hcl, ⟨u9, rfl⟩⟩ := HFS.out.below HBU.out (fun a cs h => h) i f hf
          obtain ⟨fv, fop⟩ := f
          simp only at hcl
          have a0 := hcl 0 _ rfl
          have a1 := hcl 1 _ rfl
          have a2 := hcl 2 _ rfl
          simp only [Nat.add_zero] at a0
          have g0 : (0 : Int) ≤ (i : Int) := by omega
          have g1 : (i : Int) < (fs.length : Int) := by omega
          obtain ⟨wy, hwy, HY, HNy, hsy⟩ := boxO wu #[.string fv, .string fop, .float .f64 u9] 122
          have HHY := Aside0.mk hwy.symm
          have hsf : ∀ (W : World) (a : Addr), (store a (.float .f64 u9)).run Tryd.prog W = stored Tryd.prog W a (.float .f64 u9) _ := fun W a => run_store Tryd.prog W a _ _ rfl
          have CC := Aside0.mk (contains_ts ((HTE.out.move (fun g _ hg => HBu.out.block g hg)).move (fun g _ hg => HY.out.block g hg)) ec fv)
          have CO := Aside0.mk (isOp_any fop wy)
          have HBY := Aside0.mk (below_then HBU.out HBU.out.size HY.out)
          obtain ⟨b1, hb1⟩ : ∃ b, Lib.containsS all fv = b := ⟨_, rfl⟩
          obtain ⟨b2, hb2⟩ : ∃ b, opB fop = b := ⟨_, rfl⟩
          have HA : Aside0 ((∀ (i : Nat) f, fs[i]? = some f → Lib.containsS (varsL ps) f.v = true ∧ opB f.op = true) → b1 = true ∧ b2 = true) := ⟨fun h => by
            have := h i _ hf
            simp only at this
            rwa [HALL.out, hb1, hb2] at this⟩
          have HA2 : Aside0 (b1 = true ∧ b2 = true → ∀ (j : Nat) f, j < i + 1 → fs[j]? = some f → Lib.containsS all f.v = true ∧ opB f.op = true) := ⟨fun hb j f hj hfj => by
            by_cases e : j = i
            · subst e
              obtain rfl := Option.some.inj (hf.symm.trans hfj)
              show Lib.containsS all fv = true ∧ opB fop = true
              rw [hb1, hb2]
              exact hb
            · exact HJ.out j f (by omega) hfj⟩
          rw [hb1] at CC
          rw [hb2] at CO
          clear hcl hf hwy hsy hb1 hb2
          cases b1 with
          | false =>
            have HF : Aside0 (¬ IsQ ⟨ask, vs, ps, fs, lim, off⟩) := ⟨fun h => by exact absurd (HA.out h.2.2.2.2.1) (by simp)⟩
            go_upto_region 13 with (fail)
            rw [HHY.out]
            clear hsf
            have z0 := blk_cell HNy.out 0
            have z1 := blk_cell HNy.out 1
            simp at z0 z1
            clear a0 a1 a2
            go_wp2_with (go_at_call 78; (with_reducible refine CC.out.mono ?_); rintro e w1 ⟨rfl, rfl⟩)
            go_ret
            exact are_no HPP.out HF.out (w_then HB.out HBY.out)
          | true =>
            cases b2 with
            | false =>
              have HF : Aside0 (¬ IsQ ⟨ask, vs, ps, fs, lim, off⟩) := ⟨fun h => by exact absurd (HA.out h.2.2.2.2.1) (by simp)⟩
              go_upto_region 13 with (fail)
              rw [HHY.out]
              clear hsf
              have z0 := blk_cell HNy.out 0
              have z1 := blk_cell HNy.out 1
              simp at z0 z1
              clear a0 a1 a2
              go_wp2_with (first
                | (go_at_call 78; (with_reducible refine CC.out.mono ?_); rintro e w1 ⟨rfl, rfl⟩)
                | (go_at_call 80; (with_reducible refine CO.out.mono ?_); rintro e w2 ⟨rfl, hb⟩; have HB2 := Aside0.mk (below_then HBY.out HBY.out.size hb); have HB9 := Aside0.mk hb; clear hb))
              go_ret
              exact are_no HPP.out HF.out (w_then HB.out HB2.out)
            | true =>
              go_upto_region 13 with (fail)
              rw [HHY.out]
              clear hsf
              have z0 := blk_cell HNy.out 0
              have z1 := blk_cell HNy.out 1
              simp at z0 z1
              clear a0 a1 a2
              go_wp2_with (first
                | (go_at_call 78; (with_reducible refine CC.out.mono ?_); rintro e w1 ⟨rfl, rfl⟩)
                | (go_at_call 80; (with_reducible refine CO.out.mono ?_); rintro e w2 ⟨rfl, hb⟩; have HB2 := Aside0.mk (below_then HBY.out HBY.out.size hb); have HB9 := Aside0.mk hb; clear hb))
              clear z0 z1
              go_roundw
              case rel => exact ⟨i + 1, by omega, by go_num, ⟨HA2.out (by simp)⟩, ⟨(HBu.out.trans ((HY.out.trans (HB9.out.mono HY.out.size)).mono HBu.out.size))⟩⟩
              case measure => simp [intOf]; omega
        · have HFIL : Aside0 (∀ (i : Nat) f, fs[i]? = some f → Lib.containsS all f.v = true ∧ opB f.op = true) := ⟨fun j f hf => HJ.out j f (by have := (List.getElem?_eq_some_iff.1 hf).1; omega) hf⟩
          have q1 := blk_cell (blk_below HN.out HBU.out) 1; have q2 := blk_cell (blk_below HN.out HBU.out) 2; have q3 := blk_cell (blk_below HN.out HBU.out) 3; have q4 := blk_cell (blk_below HN.out HBU.out) 4; have q5 := blk_cell (blk_below HN.out HBU.out) 5; have q0 := blk_cell (blk_below HN.out HBU.out) 0; simp at q0 q1 q2 q3 q4 q5
          have CA := Aside0.mk (areVars_any ask vs A c B ps.length c' D fs.length d lim off all E ec wu hc (HTS.out.move (fun g _ hg => HBU.out.block g hg)) (HTE.out.move (fun g _ hg => HBu.out.block g hg)))
          have g1 : decide ((i : Int) < (fs.length : Int)) = false := by rw [decide_eq_false_iff_not]; omega
          have g1n : decide (i < fs.length) = false := by rw [decide_eq_false_iff_not]; omega
          clear hin hi
          by_cases h6 : 6 < all.length
          · have HF : Aside0 (¬ IsQ ⟨ask, vs, ps, fs, lim, off⟩) := ⟨fun h => by have := h.2.2.2.2.2.1; simp only at this; rw [HALL.out] at this; omega⟩
            have n6 : decide ((all.length : Int) ≤ (6 : Int)) = false := by rw [decide_eq_false_iff_not]; omega
            clear h6
            go_wp2_with fail
            go_ret
            exact are_no HPP.out HF.out (w_then HB.out HBU.out)
          have n6 : decide ((all.length : Int) ≤ (6 : Int)) = true := by rw [decide_eq_true_eq]; omega
          by_cases hvo : VarOk all vs ∧ (ask = true → vs.length = 0)
          · have HVO := Aside0.mk hvo
            have HAV := Aside0.mk hvo
            clear hvo
            have CA2 : Aside0 (Calls Tryd.prog 81 #[.agg #[.bool ask, .slice A vs.length c, .slice B ps.length c', .slice D fs.length d, .int .i64 lim, .int .i64 off], .slice E all.length ec] wu fun e w' => e = .returned (.bool true) ∧ Below wu.heap.size wu w') := ⟨CA.out.mono fun e w' h => by
              obtain ⟨b, h1, h2, h3⟩ := h
              have : b = true := h2.2 HVO.out
              subst this
              exact ⟨h1, h3⟩⟩
            clear CA
            by_cases hl1 : lim < -1
            · have HF : Aside0 (¬ IsQ ⟨ask, vs, ps, fs, lim, off⟩) := ⟨fun h => by have := h.2.2.2.2.2.2.2.1; simp only at this; omega⟩
              have m1 : decide ((-1 : Int) ≤ lim) = false := by rw [decide_eq_false_iff_not]; omega
              go_wp2_with (go_at_call 81; (with_reducible refine CA2.out.mono ?_); rintro e w3 ⟨rfl, hb⟩; have HB3 := Aside0.mk (below_then HBU.out HBU.out.size hb); clear hb q0 q1 q2 q3 q4 q5; have q1 := blk_cell (blk_below HN.out HB3.out) 1; have q2 := blk_cell (blk_below HN.out HB3.out) 2; have q3 := blk_cell (blk_below HN.out HB3.out) 3; have q4 := blk_cell (blk_below HN.out HB3.out) 4; have q5 := blk_cell (blk_below HN.out HB3.out) 5; have q0 := blk_cell (blk_below HN.out HB3.out) 0; simp at q0 q1 q2 q3 q4 q5)
              go_ret
              exact are_no HPP.out HF.out (w_then HB.out HB3.out)
            have m1 : decide ((-1 : Int) ≤ lim) = true := by rw [decide_eq_true_eq]; omega
            by_cases hl2 : 1000 < lim
            · have HF : Aside0 (¬ IsQ ⟨ask, vs, ps, fs, lim, off⟩) := ⟨fun h => by have := h.2.2.2.2.2.2.2.2.1; simp only at this; omega⟩
              have m2 : decide (lim ≤ (1000 : Int)) = false := by rw [decide_eq_false_iff_not]; omega
              go_wp2_with (go_at_call 81; (with_reducible refine CA2.out.mono ?_); rintro e w3 ⟨rfl, hb⟩; have HB3 := Aside0.mk (below_then HBU.out HBU.out.size hb); clear hb q0 q1 q2 q3 q4 q5; have q1 := blk_cell (blk_below HN.out HB3.out) 1; have q2 := blk_cell (blk_below HN.out HB3.out) 2; have q3 := blk_cell (blk_below HN.out HB3.out) 3; have q4 := blk_cell (blk_below HN.out HB3.out) 4; have q5 := blk_cell (blk_below HN.out HB3.out) 5; have q0 := blk_cell (blk_below HN.out HB3.out) 0; simp at q0 q1 q2 q3 q4 q5)
              go_ret
              exact are_no HPP.out HF.out (w_then HB.out HB3.out)
            have m2 : decide (lim ≤ (1000 : Int)) = true := by rw [decide_eq_true_eq]; omega
            by_cases ho1 : off < 0
            · have HF : Aside0 (¬ IsQ ⟨ask, vs, ps, fs, lim, off⟩) := ⟨fun h => by have := h.2.2.2.2.2.2.2.2.2.1; simp only at this; omega⟩
              have m3 : decide ((0 : Int) ≤ off) = false := by rw [decide_eq_false_iff_not]; omega
              go_wp2_with (go_at_call 81; (with_reducible refine CA2.out.mono ?_); rintro e w3 ⟨rfl, hb⟩; have HB3 := Aside0.mk (below_then HBU.out HBU.out.size hb); clear hb q0 q1 q2 q3 q4 q5; have q1 := blk_cell (blk_below HN.out HB3.out) 1; have q2 := blk_cell (blk_below HN.out HB3.out) 2; have q3 := blk_cell (blk_below HN.out HB3.out) 3; have q4 := blk_cell (blk_below HN.out HB3.out) 4; have q5 := blk_cell (blk_below HN.out HB3.out) 5; have q0 := blk_cell (blk_below HN.out HB3.out) 0; simp at q0 q1 q2 q3 q4 q5)
              go_ret
              exact are_no HPP.out HF.out (w_then HB.out HB3.out)
            have m3 : decide ((0 : Int) ≤ off) = true := by rw [decide_eq_true_eq]; omega
            by_cases ho2 : 1000 < off
            · have HF : Aside0 (¬ IsQ ⟨ask, vs, ps, fs, lim, off⟩) := ⟨fun h => by have := h.2.2.2.2.2.2.2.2.2.2; simp only at this; omega⟩
              have m4 : decide (off ≤ (1000 : Int)) = false := by rw [decide_eq_false_iff_not]; omega
              go_wp2_with (go_at_call 81; (with_reducible refine CA2.out.mono ?_); rintro e w3 ⟨rfl, hb⟩; have HB3 := Aside0.mk (below_then HBU.out HBU.out.size hb); clear hb q0 q1 q2 q3 q4 q5; have q1 := blk_cell (blk_below HN.out HB3.out) 1; have q2 := blk_cell (blk_below HN.out HB3.out) 2; have q3 := blk_cell (blk_below HN.out HB3.out) 3; have q4 := blk_cell (blk_below HN.out HB3.out) 4; have q5 := blk_cell (blk_below HN.out HB3.out) 5; have q0 := blk_cell (blk_below HN.out HB3.out) 0; simp at q0 q1 q2 q3 q4 q5)
              go_ret
              exact are_no HPP.out HF.out (w_then HB.out HB3.out)
            have m4 : decide (off ≤ (1000 : Int)) = true := by rw [decide_eq_true_eq]; omega
            have HF : Aside0 (IsQ ⟨ask, vs, ps, fs, lim, off⟩) := ⟨by
              refine ⟨by show 1 ≤ ps.length; omega, by show ps.length ≤ 4; omega, by show fs.length ≤ 3; omega, HPAT.out, ?_, ?_, ?_, by show -1 ≤ lim; omega, by show lim ≤ 1000; omega, by show 0 ≤ off; omega, by show off ≤ 1000; omega⟩
              · show ∀ (i : Nat) f, fs[i]? = some f → Lib.containsS (varsL ps) f.v = true ∧ opB f.op = true
                rw [HALL.out]; exact HFIL.out
              · show (varsL ps).length ≤ 6
                rw [HALL.out]; omega
              · show VarOk (varsL ps) vs ∧ (ask = true → vs.length = 0)
                rw [HALL.out]; exact HVO.out⟩
            go_wp2_with (go_at_call 81; (with_reducible refine CA2.out.mono ?_); rintro e w3 ⟨rfl, hb⟩; have HB3 := Aside0.mk (below_then HBU.out HBU.out.size hb); clear hb q0 q1 q2 q3 q4 q5; have q1 := blk_cell (blk_below HN.out HB3.out) 1; have q2 := blk_cell (blk_below HN.out HB3.out) 2; have q3 := blk_cell (blk_below HN.out HB3.out) 3; have q4 := blk_cell (blk_below HN.out HB3.out) 4; have q5 := blk_cell (blk_below HN.out HB3.out) 5; have q0 := blk_cell (blk_below HN.out HB3.out) 0; simp at q0 q1 q2 q3 q4 q5)
            go_ret
            exact are_yes HPP.out HF.out (w_then HB.out HB3.out)
          · have HF : Aside0 (¬ IsQ ⟨ask, vs, ps, fs, lim, off⟩) := ⟨fun h => by have := h.2.2.2.2.2.2.1; simp only at this; rw [HALL.out] at this; exact hvo this⟩
            have HVO := Aside0.mk hvo
            have CA2 : Aside0 (Calls Tryd.prog 81 #[.agg #[.bool ask, .slice A vs.length c, .slice B ps.length c', .slice D fs.length d, .int .i64 lim, .int .i64 off], .slice E all.length ec] wu fun e w' => e = .returned (.bool false) ∧ Below wu.heap.size wu w') := ⟨CA.out.mono fun e w' h => by
              obtain ⟨b, h1, h2, h3⟩ := h
              cases b with
              | true => exact absurd (h2.1 rfl) HVO.out
              | false => exact ⟨h1, h3⟩⟩
            clear CA hvo
            go_wp2_with (go_at_call 81; (with_reducible refine CA2.out.mono ?_); rintro e w3 ⟨rfl, hb⟩; have HB3 := Aside0.mk (below_then HBU.out HBU.out.size hb); clear hb q0 q1 q2 q3 q4 q5; have q1 := blk_cell (blk_below HN.out HB3.out) 1; have q2 := blk_cell (blk_below HN.out HB3.out) 2; have q3 := blk_cell (blk_below HN.out HB3.out) 3; have q4 := blk_cell (blk_below HN.out HB3.out) 4; have q5 := blk_cell (blk_below HN.out HB3.out) 5; have q0 := blk_cell (blk_below HN.out HB3.out) 0; simp at q0 q1 q2 q3 q4 q5)
            go_ret
            exact are_no HPP.out HF.out (w_then HB.out HB3.out)
end Go.Proofs.YtbaegfjoionojaaDoor.Qy
