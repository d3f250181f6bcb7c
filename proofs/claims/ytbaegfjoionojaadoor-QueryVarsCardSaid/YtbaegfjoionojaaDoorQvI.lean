/- The walk of wide: is a query more than is looked at? -/
import Derived.Test.YtbaegfjoionojaaDoorQvH
set_option linter.unusedSimpArgs false
set_option linter.unusedVariables false
namespace Go.Proofs.YtbaegfjoionojaaDoor.Qy
open Go Go.RowKit Go.Proofs.YtbaegfjoionojaaDoor.Tm Go.Proofs.YtbaegfjoionojaaDoorW.PrintWords

def NarP (p : Pat) : Prop := bigP p.p 0 = false ∧ p.s.v.size + p.o.v.size + p.s.tm.t.size + p.s.tm.x.size + p.o.tm.t.size + p.o.tm.x.size ≤ 600
/-- A query that is looked at. -/
def Nar (q : Qry) : Prop := q.pats.length ≤ 20 ∧ q.fils.length ≤ 20 ∧ q.vars.length ≤ 20 ∧ ∀ p ∈ q.pats, NarP p
def WideP (w : World) (q : Qry) (e : Ending) (w' : World) : Prop := ∃ b : Bool, e = .returned (.bool b) ∧ (b = false → Nar q) ∧ Below w.heap.size w w'
def BigQ : Prop := ∀ (p : Pth) (W : World) (k : Int) (t : ByteArray) (A : Option Addr) (n c : Nat) (B : Option Addr) (m e : Nat), PathAt W anyB p [.int .i64 k, .string t, .slice A n c, .slice B m e] → Calls Tryd.prog 23 #[.agg #[.int .i64 k, .string t, .slice A n c, .slice B m e], .int .i64 0] W fun e w' => e = .returned (.bool (bigP p 0)) ∧ Below W.heap.size W w'
theorem wide_yes {w w' : World} {q : Qry} (h : Below w.heap.size w w') : WideP w q (.returned (.bool true)) w' := ⟨true, rfl, fun h => (by cases h), h⟩
theorem w_then {w0 w w1 : World} (h : Below w0.heap.size w0 w) (h2 : Below w.heap.size w w1) : Below w0.heap.size w0 w1 := h.trans (h2.mono h.size)
/-- Cells of a row's place. -/
theorem pat12 {w : World} {b : Nat} {u0 u1 u2 u3 u4 u5 u6 u7 u8 u9 u10 u11 : Value} {ty : TypeId} (h : w.heap[b]? = some (.cells #[u0, u1, u2, u3, u4, u5, u6, u7, u8, u9, u10, u11] ty (0, 0))) :
    w.cell? ⟨b, 0, none⟩ = some u0 ∧ w.cell? ⟨b, 1, none⟩ = some u1 ∧ w.cell? ⟨b, 2, none⟩ = some u2 ∧ w.cell? ⟨b, 3, none⟩ = some u3 ∧ w.cell? ⟨b, 4, none⟩ = some u4 ∧ w.cell? ⟨b, 5, none⟩ = some u5 ∧ w.cell? ⟨b, 6, none⟩ = some u6 ∧ w.cell? ⟨b, 7, none⟩ = some u7 ∧ w.cell? ⟨b, 8, none⟩ = some u8 ∧ w.cell? ⟨b, 9, none⟩ = some u9 ∧ w.cell? ⟨b, 10, none⟩ = some u10 ∧ w.cell? ⟨b, 11, none⟩ = some u11 :=
  ⟨(blk_cell h 0).trans rfl, (blk_cell h 1).trans rfl, (blk_cell h 2).trans rfl, (blk_cell h 3).trans rfl, (blk_cell h 4).trans rfl, (blk_cell h 5).trans rfl, (blk_cell h 6).trans rfl, (blk_cell h 7).trans rfl, (blk_cell h 8).trans rfl, (blk_cell h 9).trans rfl, (blk_cell h 10).trans rfl, (blk_cell h 11).trans rfl⟩
set_option maxRecDepth 100000 in
set_option maxHeartbeats 8000000 in
theorem wide_any (HBIG : BigQ) (q : Qry) (w : World) (A : Option Addr) (c : Nat) (B : Option Addr) (c' : Nat) (D : Option Addr) (d : Nat) (hc : q.vars.length ≤ c) (hts : TsAt w anyB A q.vars) (hps : RowAt w B 12 q.pats (PatAt w)) (hfs : RowAt w D 3 q.fils FilAt) (hpl : q.pats.length ≤ 9223372036854775807) (hfl : q.fils.length ≤ 9223372036854775807)
    (hsm : ∀ p ∈ q.pats, EdSm 140737488351232 p.s ∧ EdSm 140737488351232 p.o) :
    Calls Tryd.prog 47 #[.agg #[.bool q.ask, .slice A q.vars.length c, .slice B q.pats.length c', .slice D q.fils.length d, .int .i64 q.lim, .int .i64 q.off]] w (WideP w q) := by
  obtain ⟨ask, vs, ps, fs, lim, off⟩ := q
  simp only at hc hts hps hfs hpl hfl hsm ⊢
  obtain ⟨wb, hwb, HB, HN⟩ := boxQ w ask A vs.length c B ps.length c' D fs.length d lim off
  have HHW := Aside0.mk hwb.symm
  have HTS : Aside0 (TsAt wb anyB A vs) := ⟨hts.move (fun g _ hg => HB.out.block g hg)⟩
  have HPS := Aside0.mk (hps.below HB.out (fun a cs h => h.below HB.out))
  have HFS := Aside0.mk (hfs.below HB.out (fun a cs h => h))
  have HSM := Aside0.mk hsm
  have HBG := Aside0.mk HBIG
  have hvl : vs.length ≤ 9223372036854775807 := hts.1
  clear hwb hts hps hfs hsm HBIG
  by_cases hp20 : 20 < ps.length
  · have n1 : decide ((20 : Int) < (ps.length : Int)) = true := by rw [decide_eq_true_eq]; omega
    clear hp20
    go_enter Tryd.func47, Tryd.ntmps47
    go_upto_region 1 with (fail)
    rw [HHW.out]
    have q1 := blk_cell HN.out 1; have q2 := blk_cell HN.out 2; have q3 := blk_cell HN.out 3; simp at q1 q2 q3
    go_wp2_with fail
    go_ret
    exact wide_yes HB.out
  have n1 : decide ((20 : Int) < (ps.length : Int)) = false := by rw [decide_eq_false_iff_not]; omega
  by_cases hf20 : 20 < fs.length
  · have n2 : decide ((20 : Int) < (fs.length : Int)) = true := by rw [decide_eq_true_eq]; omega
    clear hp20 hf20
    go_enter Tryd.func47, Tryd.ntmps47
    go_upto_region 1 with (fail)
    rw [HHW.out]
    have q1 := blk_cell HN.out 1; have q2 := blk_cell HN.out 2; have q3 := blk_cell HN.out 3; simp at q1 q2 q3
    go_wp2_with fail
    go_ret
    exact wide_yes HB.out
  have n2 : decide ((20 : Int) < (fs.length : Int)) = false := by rw [decide_eq_false_iff_not]; omega
  by_cases hv20 : 20 < vs.length
  · have n3 : decide ((20 : Int) < (vs.length : Int)) = true := by rw [decide_eq_true_eq]; omega
    clear hp20 hf20 hv20
    go_enter Tryd.func47, Tryd.ntmps47
    go_upto_region 1 with (fail)
    rw [HHW.out]
    have q1 := blk_cell HN.out 1; have q2 := blk_cell HN.out 2; have q3 := blk_cell HN.out 3; simp at q1 q2 q3
    go_wp2_with fail
    go_ret
    exact wide_yes HB.out
  have n3 : decide ((20 : Int) < (vs.length : Int)) = false := by rw [decide_eq_false_iff_not]; omega
  go_enter Tryd.func47, Tryd.ntmps47
  go_upto_region 1 with (fail)
  rw [HHW.out]
  have q1 := blk_cell HN.out 1; have q2 := blk_cell HN.out 2; have q3 := blk_cell HN.out 3; simp at q1 q2 q3
  go_wp2_with fail
  clear n1 n2 n3
  go_loopw [3] (fun u wr => ∃ i : Nat, i ≤ ps.length ∧ u = .int .i64 i ∧ Aside0 (∀ (j : Nat) p, j < i → ps[j]? = some p → NarP p) ∧ Aside0 (Below wb.heap.size wb wr)) (fun u _ => ps.length - (intOf u).toNat)
  case atStart => exact ⟨0, by omega, rfl, ⟨fun j p h => by omega⟩, ⟨Below.refl _ _⟩⟩
  case round =>
    clear q1 q2 q3
    obtain ⟨wv, rfl⟩ : ∃ x, x = wr := ⟨wr, rfl⟩
    obtain ⟨i, hi, rfl, HJ, HBv⟩ := hrel
    have q1 := blk_cell (blk_below HN.out HBv.out) 1; have q2 := blk_cell (blk_below HN.out HBv.out) 2; have q3 := blk_cell (blk_below HN.out HBv.out) 3; simp at q1 q2 q3
    by_cases hin : i < ps.length
    · obtain ⟨p, hp⟩ : ∃ p, ps[i]? = some p := ⟨ps[i]'hin, List.getElem?_eq_getElem _⟩
      obtain ⟨pb, po, cs, rfl, hcl, hpa⟩ := HPS.out.below HBv.out (fun a cs h => h.below HBv.out) i p hp
      obtain ⟨k, t, A5, n5, c5, B5, m5, d5, hpp, rfl⟩ := pat_cells hpa
      obtain ⟨hs1, hs2⟩ := HSM.out p (List.mem_of_getElem? hp)
      obtain ⟨⟨v1, ⟨k1, t1, x1⟩⟩, pp, ⟨v2, ⟨k2, t2, x2⟩⟩⟩ := p
      obtain ⟨e1, e2, e3⟩ := hs1
      obtain ⟨e4, e5, e6⟩ := hs2
      simp only at hpp e1 e2 e3 e4 e5 e6 hcl
      have a0 := hcl 0 _ rfl
      have a1 := hcl 1 _ rfl
      have a2 := hcl 2 _ rfl
      have a3 := hcl 3 _ rfl
      have a4 := hcl 4 _ rfl
      have a5 := hcl 5 _ rfl
      have a6 := hcl 6 _ rfl
      have a7 := hcl 7 _ rfl
      have a8 := hcl 8 _ rfl
      have a9 := hcl 9 _ rfl
      have a10 := hcl 10 _ rfl
      have a11 := hcl 11 _ rfl
      simp only [Nat.add_zero] at a0
      have g0 : (0 : Int) ≤ (i : Int) := by omega
      have g1 : (i : Int) < (ps.length : Int) := by omega
      have HP := Aside0.mk hp
      have HPP := Aside0.mk hpp
      clear hcl hp hpa hpp
      go_upto_region 7 with (fail)
      obtain ⟨wy, hwy, HY, HNy, hsy⟩ := boxO wv #[.string v1, .int .i64 k1, .string t1, .string x1, .int .i64 k, .string t, .slice A5 n5 c5, .slice B5 m5 d5, .string v2, .int .i64 k2, .string t2, .string x2] 78
      rw [← hwy]
      obtain ⟨z0, z1, z2, z3, z4, z5, z6, z7, z8, z9, z10, z11⟩ := pat12 HNy.out
      have HBy := Aside0.mk (below_then HBv.out HBv.out.size HY.out)
      have CB := Aside0.mk (HBG.out pp wy _ _ _ _ _ _ _ _ (HPP.out.below HY.out))
      obtain ⟨b1, hb1⟩ : ∃ b, bigP pp 0 = b := ⟨_, rfl⟩
      rw [hb1] at CB
      have HB1 := Aside0.mk hb1
      clear hwy hsy hb1 q1 q2 q3 a0 a1 a2 a3 a4 a5 a6 a7 a8 a9 a10 a11
      cases b1 with
      | true =>
        go_wp2_with (go_at_call 23; (with_reducible refine CB.out.mono ?_); rintro e w2 ⟨rfl, hb⟩; have HB2 := Aside0.mk (below_then HBy.out HBy.out.size hb); clear hb z0 z1 z2 z3 z4 z5 z6 z7 z8 z9 z10 z11)
        go_ret
        exact wide_yes (w_then HB.out HB2.out)
      | false =>
        have f1 : (v1.size : Int) ≤ 140737488351232 := by omega
        have f2 : (v2.size : Int) ≤ 140737488351232 := by omega
        have f3 : (t1.size : Int) ≤ 140737488351232 := by omega
        have f4 : (x1.size : Int) ≤ 140737488351232 := by omega
        have f5 : (t2.size : Int) ≤ 140737488351232 := by omega
        have f6 : (x2.size : Int) ≤ 140737488351232 := by omega
        by_cases hs : v1.size + v2.size + t1.size + x1.size + t2.size + x2.size ≤ 600
        · have HJ2 : Aside0 (∀ (j : Nat) p, j < i + 1 → ps[j]? = some p → NarP p) := ⟨fun j p hj hp => by
            by_cases e : j = i
            · subst e
              obtain rfl := Option.some.inj (HP.out.symm.trans hp)
              exact ⟨HB1.out, hs⟩
            · exact HJ.out j p (by omega) hp⟩
          have n6 : decide ((600 : Int) < (v1.size : Int) + (v2.size : Int) + (t1.size : Int) + (x1.size : Int) + (t2.size : Int) + (x2.size : Int)) = false := by rw [decide_eq_false_iff_not]; omega
          go_wp2_with (go_at_call 23; (with_reducible refine CB.out.mono ?_); rintro e w2 ⟨rfl, hb⟩; have HB2 := Aside0.mk (below_then HBy.out HBy.out.size hb); clear z0 z1 z2 z3 z4 z5 z6 z7 z8 z9 z10 z11; obtain ⟨z0, z1, z2, z3, z4, z5, z6, z7, z8, z9, z10, z11⟩ := pat12 (blk_below HNy.out hb); clear hb)
          go_roundw
          case rel => exact ⟨i + 1, by omega, by go_num, HJ2, HB2⟩
          case measure => simp [intOf]; omega
        · have n6 : decide ((600 : Int) < (v1.size : Int) + (v2.size : Int) + (t1.size : Int) + (x1.size : Int) + (t2.size : Int) + (x2.size : Int)) = true := by rw [decide_eq_true_eq]; omega
          go_wp2_with (go_at_call 23; (with_reducible refine CB.out.mono ?_); rintro e w2 ⟨rfl, hb⟩; have HB2 := Aside0.mk (below_then HBy.out HBy.out.size hb); clear z0 z1 z2 z3 z4 z5 z6 z7 z8 z9 z10 z11; obtain ⟨z0, z1, z2, z3, z4, z5, z6, z7, z8, z9, z10, z11⟩ := pat12 (blk_below HNy.out hb); clear hb)
          go_ret
          exact wide_yes (w_then HB.out HB2.out)
    · have HNAR : Aside0 (Nar ⟨ask, vs, ps, fs, lim, off⟩) := ⟨⟨by show ps.length ≤ 20; omega, by show fs.length ≤ 20; omega, by show vs.length ≤ 20; omega, fun p hp => by
        obtain ⟨j, hj, e⟩ := List.getElem_of_mem hp
        have hj : j < ps.length := hj
        exact HJ.out j p (by omega) (by rw [List.getElem?_eq_getElem hj]; exact congrArg some e)⟩⟩
      have g1 : decide ((i : Int) < (ps.length : Int)) = false := by rw [decide_eq_false_iff_not]; omega
      have g1n : decide (i < ps.length) = false := by rw [decide_eq_false_iff_not]; omega
      clear hin hi hp20 hf20 hv20 hpl
      go_wp2_with fail
      clear g1 g1n
      go_loopw [5] (fun u wr => ∃ i : Nat, i ≤ fs.length ∧ u = .int .i64 i ∧ Aside0 (Below wb.heap.size wb wr)) (fun u _ => fs.length - (intOf u).toNat)
      case atStart => exact ⟨0, by omega, rfl, HBv⟩
      case round =>
        clear q1 q2 q3
        obtain ⟨wu, rfl⟩ : ∃ x, x = wr := ⟨wr, rfl⟩
        obtain ⟨i, hi, rfl, HBu⟩ := hrel
        have q1 := blk_cell (blk_below HN.out HBu.out) 1; have q2 := blk_cell (blk_below HN.out HBu.out) 2; have q3 := blk_cell (blk_below HN.out HBu.out) 3; simp at q1 q2 q3
        by_cases hin : i < fs.length
        · obtain ⟨f, hf⟩ : ∃ f, fs[i]? = some f := ⟨fs[i]'hin, List.getElem?_eq_getElem _⟩
          obtain ⟨fb, fo, cs, rfl, hcl, ⟨u9, rfl⟩⟩ := HFS.out.below HBu.out (fun a cs h => h) i f hf
          have a0 := hcl 0 _ rfl
          have a1 := hcl 1 _ rfl
          simp only [Nat.add_zero] at a0
          have g0 : (0 : Int) ≤ (i : Int) := by omega
          have g1 : (i : Int) < (fs.length : Int) := by omega
          have HS : Aside0 (∀ W, Below wu.heap.size wu W → (fun W : World => W.cell? ⟨w.heap.size, 3, none⟩ = some (.slice (some ⟨fb, fo, none⟩) fs.length d) ∧ W.cell? ⟨fb, fo + i * 3, none⟩ = some (.string f.v) ∧ W.cell? ⟨fb, fo + i * 3 + 1, none⟩ = some (.string f.op)) W) := ⟨fun W h => ⟨pw_cell_below h q3, pw_cell_below h a0, pw_cell_below h a1⟩⟩
          obtain ⟨bb, hbb⟩ : ∃ b, decide ((100 : Int) < IntKind.i64.wrap ((f.v.size : Int) + (f.op.size : Int))) = b := ⟨_, rfl⟩
          clear hcl hf
          cases bb with
          | true =>
            go_upto_region 12 with (fail)
            have hS := HS.out _ (below_drew (Below.refl wu.heap.size wu))
            refine wp_region_held (S := (fun W : World => W.cell? ⟨w.heap.size, 3, none⟩ = some (.slice (some ⟨fb, fo, none⟩) fs.length d) ∧ W.cell? ⟨fb, fo + i * 3, none⟩ = some (.string f.v) ∧ W.cell? ⟨fb, fo + i * 3 + 1, none⟩ = some (.string f.op))) (by kernel_rfl) ?_
            change wpAnyH _ _ _ _ _ _ _ _ wu.drew
            have HBd := Aside0.mk (below_drew HBu.out)
            generalize wu.drew = wd at hS HBd ⊢
            clear q1 q2 q3 a0 a1
            first | refine tkU 0 hS ?_ | (refine tkV 0 (v := ?_) hS ?_ ?_; rotate_left 1; · (intro w0 hSw; (try dsimp only at hSw); go_split_ands; go_simp; try with_reducible rfl)) | fail
            try simp only [Act.put, pL]
            first | refine tkU 1 hS ?_ | (refine tkV 1 (v := ?_) hS ?_ ?_; rotate_left 1; · (intro w0 hSw; (try dsimp only at hSw); go_split_ands; go_simp; try with_reducible rfl)) | fail
            try simp only [Act.put, pL]
            first | refine tkU 2 hS ?_ | (refine tkV 2 (v := ?_) hS ?_ ?_; rotate_left 1; · (intro w0 hSw; (try dsimp only at hSw); go_split_ands; go_simp; try with_reducible rfl)) | fail
            try simp only [Act.put, pL]
            first | refine tkU 3 hS ?_ | (refine tkV 3 (v := ?_) hS ?_ ?_; rotate_left 1; · (intro w0 hSw; (try dsimp only at hSw); go_split_ands; go_simp; try with_reducible rfl)) | fail
            try simp only [Act.put, pL]
            first | refine tkU 4 hS ?_ | (refine tkV 4 (v := ?_) hS ?_ ?_; rotate_left 1; · (intro w0 hSw; (try dsimp only at hSw); go_split_ands; go_simp; try with_reducible rfl)) | fail
            try simp only [Act.put, pL]
            first | refine tkU 5 hS ?_ | (refine tkV 5 (v := ?_) hS ?_ ?_; rotate_left 1; · (intro w0 hSw; (try dsimp only at hSw); go_split_ands; go_simp; try with_reducible rfl)) | fail
            try simp only [Act.put, pL]
            first | refine tkU 6 hS ?_ | (refine tkV 6 (v := ?_) hS ?_ ?_; rotate_left 1; · (intro w0 hSw; (try dsimp only at hSw); go_split_ands; go_simp; try with_reducible rfl)) | fail
            try simp only [Act.put, pL]
            first | refine tkU 7 hS ?_ | (refine tkV 7 (v := ?_) hS ?_ ?_; rotate_left 1; · (intro w0 hSw; (try dsimp only at hSw); go_split_ands; go_simp; try with_reducible rfl)) | fail
            try simp only [Act.put, pL]
            first | refine tkU 8 hS ?_ | (refine tkV 8 (v := ?_) hS ?_ ?_; rotate_left 1; · (intro w0 hSw; (try dsimp only at hSw); go_split_ands; go_simp; try with_reducible rfl)) | fail
            try simp only [Act.put, pL]
            first | refine tkU 9 hS ?_ | (refine tkV 9 (v := ?_) hS ?_ ?_; rotate_left 1; · (intro w0 hSw; (try dsimp only at hSw); go_split_ands; go_simp; try with_reducible rfl)) | fail
            try simp only [Act.put, pL]
            first | refine tkU 10 hS ?_ | (refine tkV 10 (v := ?_) hS ?_ ?_; rotate_left 1; · (intro w0 hSw; (try dsimp only at hSw); go_split_ands; go_simp; try with_reducible rfl)) | fail
            try simp only [Act.put, pL]
            first | refine tkU 11 hS ?_ | (refine tkV 11 (v := ?_) hS ?_ ?_; rotate_left 1; · (intro w0 hSw; (try dsimp only at hSw); go_split_ands; go_simp; try with_reducible rfl)) | fail
            try simp only [Act.put, pL]
            first | refine tkU 12 hS ?_ | (refine tkV 12 (v := ?_) hS ?_ ?_; rotate_left 1; · (intro w0 hSw; (try dsimp only at hSw); go_split_ands; go_simp; try with_reducible rfl)) | fail
            try simp only [Act.put, pL]
            first | refine tkU 13 hS ?_ | (refine tkV 13 (v := ?_) hS ?_ ?_; rotate_left 1; · (intro w0 hSw; (try dsimp only at hSw); go_split_ands; go_simp; try with_reducible rfl)) | fail
            try simp only [Act.put, pL]
            first | refine tkU 14 hS ?_ | (refine tkV 14 (v := ?_) hS ?_ ?_; rotate_left 1; · (intro w0 hSw; (try dsimp only at hSw); go_split_ands; go_simp; try with_reducible rfl)) | fail
            try simp only [Act.put, pL]
            first | refine tkU 15 hS ?_ | (refine tkV 15 (v := ?_) hS ?_ ?_; rotate_left 1; · (intro w0 hSw; (try dsimp only at hSw); go_split_ands; go_simp; try with_reducible rfl)) | fail
            try simp only [Act.put, pL]
            refine wpAnyH_done (by kernel_rfl) ?_ _
            clear hS
            go_wp2_with fail
            go_ret
            exact wide_yes (w_then HB.out HBd.out)
          | false =>
            go_upto_region 12 with (fail)
            have hS := HS.out _ (below_drew (Below.refl wu.heap.size wu))
            refine wp_region_held (S := (fun W : World => W.cell? ⟨w.heap.size, 3, none⟩ = some (.slice (some ⟨fb, fo, none⟩) fs.length d) ∧ W.cell? ⟨fb, fo + i * 3, none⟩ = some (.string f.v) ∧ W.cell? ⟨fb, fo + i * 3 + 1, none⟩ = some (.string f.op))) (by kernel_rfl) ?_
            change wpAnyH _ _ _ _ _ _ _ _ wu.drew
            have HBd := Aside0.mk (below_drew HBu.out)
            generalize wu.drew = wd at hS HBd ⊢
            clear q1 q2 q3 a0 a1
            first | refine tkU 0 hS ?_ | (refine tkV 0 (v := ?_) hS ?_ ?_; rotate_left 1; · (intro w0 hSw; (try dsimp only at hSw); go_split_ands; go_simp; try with_reducible rfl)) | fail
            try simp only [Act.put, pL]
            first | refine tkU 1 hS ?_ | (refine tkV 1 (v := ?_) hS ?_ ?_; rotate_left 1; · (intro w0 hSw; (try dsimp only at hSw); go_split_ands; go_simp; try with_reducible rfl)) | fail
            try simp only [Act.put, pL]
            first | refine tkU 2 hS ?_ | (refine tkV 2 (v := ?_) hS ?_ ?_; rotate_left 1; · (intro w0 hSw; (try dsimp only at hSw); go_split_ands; go_simp; try with_reducible rfl)) | fail
            try simp only [Act.put, pL]
            first | refine tkU 3 hS ?_ | (refine tkV 3 (v := ?_) hS ?_ ?_; rotate_left 1; · (intro w0 hSw; (try dsimp only at hSw); go_split_ands; go_simp; try with_reducible rfl)) | fail
            try simp only [Act.put, pL]
            first | refine tkU 4 hS ?_ | (refine tkV 4 (v := ?_) hS ?_ ?_; rotate_left 1; · (intro w0 hSw; (try dsimp only at hSw); go_split_ands; go_simp; try with_reducible rfl)) | fail
            try simp only [Act.put, pL]
            first | refine tkU 5 hS ?_ | (refine tkV 5 (v := ?_) hS ?_ ?_; rotate_left 1; · (intro w0 hSw; (try dsimp only at hSw); go_split_ands; go_simp; try with_reducible rfl)) | fail
            try simp only [Act.put, pL]
            first | refine tkU 6 hS ?_ | (refine tkV 6 (v := ?_) hS ?_ ?_; rotate_left 1; · (intro w0 hSw; (try dsimp only at hSw); go_split_ands; go_simp; try with_reducible rfl)) | fail
            try simp only [Act.put, pL]
            first | refine tkU 7 hS ?_ | (refine tkV 7 (v := ?_) hS ?_ ?_; rotate_left 1; · (intro w0 hSw; (try dsimp only at hSw); go_split_ands; go_simp; try with_reducible rfl)) | fail
            try simp only [Act.put, pL]
            first | refine tkU 8 hS ?_ | (refine tkV 8 (v := ?_) hS ?_ ?_; rotate_left 1; · (intro w0 hSw; (try dsimp only at hSw); go_split_ands; go_simp; try with_reducible rfl)) | fail
            try simp only [Act.put, pL]
            first | refine tkU 9 hS ?_ | (refine tkV 9 (v := ?_) hS ?_ ?_; rotate_left 1; · (intro w0 hSw; (try dsimp only at hSw); go_split_ands; go_simp; try with_reducible rfl)) | fail
            try simp only [Act.put, pL]
            first | refine tkU 10 hS ?_ | (refine tkV 10 (v := ?_) hS ?_ ?_; rotate_left 1; · (intro w0 hSw; (try dsimp only at hSw); go_split_ands; go_simp; try with_reducible rfl)) | fail
            try simp only [Act.put, pL]
            first | refine tkU 11 hS ?_ | (refine tkV 11 (v := ?_) hS ?_ ?_; rotate_left 1; · (intro w0 hSw; (try dsimp only at hSw); go_split_ands; go_simp; try with_reducible rfl)) | fail
            try simp only [Act.put, pL]
            first | refine tkU 12 hS ?_ | (refine tkV 12 (v := ?_) hS ?_ ?_; rotate_left 1; · (intro w0 hSw; (try dsimp only at hSw); go_split_ands; go_simp; try with_reducible rfl)) | fail
            try simp only [Act.put, pL]
            first | refine tkU 13 hS ?_ | (refine tkV 13 (v := ?_) hS ?_ ?_; rotate_left 1; · (intro w0 hSw; (try dsimp only at hSw); go_split_ands; go_simp; try with_reducible rfl)) | fail
            try simp only [Act.put, pL]
            first | refine tkU 14 hS ?_ | (refine tkV 14 (v := ?_) hS ?_ ?_; rotate_left 1; · (intro w0 hSw; (try dsimp only at hSw); go_split_ands; go_simp; try with_reducible rfl)) | fail
            try simp only [Act.put, pL]
            first | refine tkU 15 hS ?_ | (refine tkV 15 (v := ?_) hS ?_ ?_; rotate_left 1; · (intro w0 hSw; (try dsimp only at hSw); go_split_ands; go_simp; try with_reducible rfl)) | fail
            try simp only [Act.put, pL]
            refine wpAnyH_done (by kernel_rfl) ?_ _
            clear hS
            go_wp2_with fail
            go_roundw
            case rel => exact ⟨i + 1, by omega, by go_num, HBd⟩
            case measure => simp [intOf]; omega
        · have g1 : decide ((i : Int) < (fs.length : Int)) = false := by rw [decide_eq_false_iff_not]; omega
          have g1n : decide (i < fs.length) = false := by rw [decide_eq_false_iff_not]; omega
          clear hin hi hfl
          go_wp2_with fail
          clear g1 g1n
          go_loopw [6] (fun u wr => ∃ i : Nat, i ≤ vs.length ∧ u = .int .i64 i ∧ Aside0 (wr = wu)) (fun u _ => vs.length - (intOf u).toNat)
          case atStart => exact ⟨0, by omega, rfl, ⟨by first | trivial | rfl⟩⟩
          case round =>
            obtain ⟨i, hi, rfl, hw⟩ := hrel
            obtain rfl := hw.out.symm
            by_cases hin : i < vs.length
            · obtain ⟨v, hv⟩ : ∃ v, vs[i]? = some v := ⟨vs[i]'hin, List.getElem?_eq_getElem _⟩
              obtain ⟨tb, tf, hA, -, htc⟩ := (HTS.out.move (fun g _ hg => HBu.out.block g hg)).2 (by omega)
              have hcell := htc i v hv
              subst hA
              have g0 : (0 : Int) ≤ (i : Int) := by omega
              have g1 : (i : Int) < (vs.length : Int) := by omega
              clear htc hv
              by_cases hs : 100 < v.size
              · have n1 : decide ((100 : Int) < (v.size : Int)) = true := by rw [decide_eq_true_eq]; omega
                clear hs
                go_wp2_with fail
                go_ret
                exact wide_yes (w_then HB.out HBu.out)
              · have n1 : decide ((100 : Int) < (v.size : Int)) = false := by rw [decide_eq_false_iff_not]; omega
                clear hs
                go_wp2_with fail
                go_roundw
                case rel => exact ⟨i + 1, by omega, by go_num, ⟨by first | trivial | rfl⟩⟩
                case measure => simp [intOf]; omega
            · have g1 : decide ((i : Int) < (vs.length : Int)) = false := by rw [decide_eq_false_iff_not]; omega
              have g1n : decide (i < vs.length) = false := by rw [decide_eq_false_iff_not]; omega
              clear hin hi
              go_wp2_with fail
              go_ret
              exact ⟨false, rfl, fun _ => HNAR.out, w_then HB.out HBu.out⟩
end Go.Proofs.YtbaegfjoionojaaDoor.Qy
