/- The law QueryPaths: any text as a path, or the place and the error. -/
import Derived.Test.YtbaegfjoionojaaDoorQyT
import Derived.Test.YtbaegfjoionojaaDoorQrG
set_option linter.unusedSimpArgs false
set_option linter.unusedVariables false
namespace Go.Proofs.YtbaegfjoionojaaDoor.Qy
open Go Go.RowKit Go.Proofs.YtbaegfjoionojaaDoor.Tm Go.Proofs.YtbaegfjoionojaaDoorW.PrintWords

set_option maxRecDepth 100000 in
set_option maxHeartbeats 8000000 in
theorem paths_law (s : ByteArray) (w : World) (_h : s.size ≤ maxLen) (_h2 : s.size ≤ 140737488351232) (hT : Tabs w) : Calls Tryd.prog 8 #[.string s] w fun e w' => e = .returned (.bool true) ∧ Below w.heap.size w w' := by
  by_cases hl : 700 < s.size
  · have g1 : (700 : Int) < (s.size : Int) := by omega
    go_enter Tryd.func8, Tryd.ntmps8
    go_wp2_with fail
    go_ret
    exact ⟨rfl, Below.refl _ _⟩
  · have g1 : (s.size : Int) ≤ 700 := by omega
    have HT := Aside0.mk hT
    have CK := Aside0.mk known_any
    have C1 := Aside0.mk (fun W (h : Tabs W) => read_any s W (by omega) h)
    have C2 := Aside0.mk (fun W (h : Tabs W) => Qr.read_any s W (by omega) h)
    obtain ⟨r, hr⟩ : ∃ r, readS s = r := ⟨_, rfl⟩
    rw [hr] at C1 C2
    obtain ⟨p, n, er⟩ := r
    have CE := Aside0.mk (same_any p p)
    have CF := Aside0.mk (refSame_any p p)
    rw [same_yes rfl] at CE CF
    clear hT hr hl _h _h2
    go_enter Tryd.func8, Tryd.ntmps8
    go_upto_region 4 with (go_at_call 26; (with_reducible refine (C1.out _ HT.out).mono ?_); rintro e w1 ⟨k1, t1, A1, n1, c1, B1, m1, d1, rfl, hb, hp⟩; have HB1 := Aside0.mk hb; have HP1 := Aside0.mk hp; have HT1 := Aside0.mk (HT.out.below hb); clear hb hp)
    obtain ⟨w2, hw2, HA2, HN2⟩ := boxP w1 k1 t1 A1 n1 c1 B1 m1 d1
    rw [← hw2]
    have HB2 := Aside0.mk (below_then HB1.out HB1.out.size HA2.out)
    have HP2 := Aside0.mk (PathAt.below HP1.out HA2.out)
    have HT2 := Aside0.mk (HT1.out.below HA2.out)
    clear hw2
    go_upto_region 5 with (go_at_call 27; (with_reducible refine (C2.out _ HT2.out).mono ?_); rintro e w3 ⟨k2, t2, A2, n2, c2, B2, m2, d2, rfl, hb, hp⟩; have HB3 := Aside0.mk (below_then HB2.out HB2.out.size hb); have HP3 := Aside0.mk (PathAt.below HP2.out hb); have HQ3 := Aside0.mk hp; have HT3 := Aside0.mk (HT2.out.below hb); have HN3 := Aside0.mk (blk_below HN2.out hb); clear hb hp)
    obtain ⟨w4, hw4, HA4, HM4⟩ := boxP w3 k2 t2 A2 n2 c2 B2 m2 d2
    rw [← hw4]
    have HB4 := Aside0.mk (below_then HB3.out HB3.out.size HA4.out)
    have HP4 := Aside0.mk (PathAt.below HP3.out HA4.out)
    have HQ4 := Aside0.mk (PathAt.below HQ3.out HA4.out)
    have HT4 := Aside0.mk (HT3.out.below HA4.out)
    have HN4 := Aside0.mk (blk_below HN3.out HA4.out)
    clear hw4
    have q0 := blk_cell HN4.out 0; have q1 := blk_cell HN4.out 1; have q2 := blk_cell HN4.out 2; have q3 := blk_cell HN4.out 3; simp at q0 q1 q2 q3
    have qx0 := blk_cell HM4.out 0; have qx1 := blk_cell HM4.out 1; have qx2 := blk_cell HM4.out 2; have qx3 := blk_cell HM4.out 3; simp at qx0 qx1 qx2 qx3
    go_wp2_with (first
      | (go_at_call 31; refine (CE.out _ _ _ _ _ _ _ _ _ _ _ _ _ _ _ _ _ _ _ HP4.out HQ4.out).mono ?_; rintro e w5 ⟨rfl, hb⟩; have HB5 := Aside0.mk (below_then HB4.out HB4.out.size hb); have HP5 := Aside0.mk (PathAt.below HP4.out hb); have HQ5 := Aside0.mk (PathAt.below HQ4.out hb); have HT5 := Aside0.mk (HT4.out.below hb); have HN5 := Aside0.mk (blk_below HN4.out hb); have HM5 := Aside0.mk (blk_below HM4.out hb); have qy0 := blk_cell HN5.out 0; have qy1 := blk_cell HN5.out 1; have qy2 := blk_cell HN5.out 2; have qy3 := blk_cell HN5.out 3; simp at qy0 qy1 qy2 qy3; have qz0 := blk_cell HM5.out 0; have qz1 := blk_cell HM5.out 1; have qz2 := blk_cell HM5.out 2; have qz3 := blk_cell HM5.out 3; simp at qz0 qz1 qz2 qz3; clear hb)
      | (go_at_call 29; refine (CF.out _ _ _ _ _ _ _ _ _ _ _ _ _ _ _ _ _ _ _ HP5.out HQ5.out).mono ?_; rintro e w6 ⟨rfl, hb⟩; have HB6 := Aside0.mk (below_then HB5.out HB5.out.size hb); have HT6 := Aside0.mk (HT5.out.below hb); clear hb)
      | (go_at_call 28; (with_reducible refine (CK.out _ HT6.out).mono ?_); rintro e w7 ⟨rfl, hb⟩; have HB7 := Aside0.mk (below_then HB6.out HB6.out.size hb); clear hb))
    go_ret
    exact ⟨rfl, HB7.out⟩
end Go.Proofs.YtbaegfjoionojaaDoor.Qy
