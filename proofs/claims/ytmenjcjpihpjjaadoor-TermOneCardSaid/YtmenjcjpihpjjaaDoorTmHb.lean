/- The walk of the reader's term at a plain literal. -/
import Derived.Test.YtmenjcjpihpjjaaDoorTmHa
set_option linter.unusedSimpArgs false
set_option linter.unusedVariables false
namespace Go.Proofs.YtmenjcjpihpjjaaDoor.Tm
open Go Go.RowKit Go.Shelf Go.Proofs.YtmenjcjpihpjjaaDoorW.PrintWords

theorem has_eq (s p : ByteArray) : hasB s p = (decide (p.size ≤ s.size) && (s.data.toList.take p.size == p.data.toList)) := by
  unfold hasB
  rw [ByteArray.toList_eq, ByteArray.toList_eq, ByteArray.data_extract, Array.toList_extract, List.extract_eq_take_drop]
  simp
set_option maxRecDepth 100000 in
set_option maxHeartbeats 2000000 in
theorem term_plain (b : Nat) (s : ByteArray) (l : List UInt8) (w0 w : World) (hR : Rd w b s) (h : s.data.toList = 34 :: (qL l ++ [34])) (hs2 : s.size ≤ 50000) (hok : isB ⟨3, ⟨l.toArray⟩, ⟨#[]⟩⟩ = true) (hll : (⟨l.toArray⟩ : ByteArray).size ≤ 1000)
    (hT : Tabs w0) (hB : Below w0.heap.size w0 w) (hb : w0.heap.size ≤ b) :
    Calls Tryd.prog 25 #[.pointer (some ⟨b, 0, none⟩)] w fun e w' => e = .returned (.agg #[.int .i64 3, .string ⟨l.toArray⟩, .string ⟨#[]⟩]) ∧ Rd w' b ⟨#[]⟩ ∧ Kp w.heap.size b w w' := by
  have hbl := blk_lt hR
  have hsz : s.size = (qL l).length + 2 := by rw [← size_list, h]; simp
  obtain ⟨wa, hwa, HA⟩ : ∃ wa, wa = w.alloc (.cells #[.int .i64 0, .string ⟨#[]⟩, .string ⟨#[]⟩] 24) ∧ Aside0 (Below w.heap.size w wa) := ⟨_, rfl, ⟨below_alloc (Below.refl _ _) _⟩⟩
  obtain ⟨wc, hwc, HC⟩ : ∃ wc, wc = wa.alloc (.cells #[.int .i64 0, .string ⟨#[]⟩, .string ⟨#[]⟩] 24) ∧ Aside0 (Below wa.heap.size wa wc) := ⟨_, rfl, ⟨below_alloc (Below.refl _ _) _⟩⟩
  have hza : wa.heap.size = w.heap.size + 1 := by rw [hwa]; simp
  have HR := Aside0.mk ((hR.below HA.out).below HC.out)
  have H1 : hasB s ⟨#[60]⟩ = false := by rw [has_eq, h, Bool.and_eq_false_iff]; right; rfl
  have H2 : hasB s ⟨#[95, 58]⟩ = false := by rw [has_eq, h, Bool.and_eq_false_iff]; right; rfl
  have H3 : hasB s ⟨#[34]⟩ = true := by
    rw [has_eq, h, decide_eq_true (show (⟨#[34]⟩ : ByteArray).size ≤ s.size by show 1 ≤ s.size; omega)]; rfl
  have C1 := Aside0.mk (fun W hr => has_any b s ⟨#[60]⟩ W hr hs2 (by decide))
  have C2 := Aside0.mk (fun W hr => has_any b s ⟨#[95, 58]⟩ W hr hs2 (by decide))
  have C3 := Aside0.mk (fun W hr => has_any b s ⟨#[34]⟩ W hr hs2 (by decide))
  rw [H1] at C1; rw [H2] at C2; rw [H3] at C3
  have HHW : Aside0 ((w.alloc (.cells #[.int .i64 0, .string ⟨#[]⟩, .string ⟨#[]⟩] 24)).alloc (.cells #[.int .i64 0, .string ⟨#[]⟩, .string ⟨#[]⟩] 24) = wc) := ⟨by rw [hwc, hwa]⟩
  obtain ⟨c0, c1, f0⟩ := HR.out.cells
  have hs1 : (1 : Int) ≤ (s.size : Int) := by omega
  obtain ⟨s1, hs1e⟩ : ∃ s1, s.extract 1 s.size = s1 := ⟨_, rfl⟩
  have hl1 : Aside0 (s1.data.toList = qL l ++ [34]) := ⟨by
    rw [← hs1e]
    exact mid_drop (a := []) (c := 34) (b := qL l ++ [34]) h⟩
  have HS1 : Aside0 (s1.size ≤ 50000) := ⟨by rw [← hs1e, ByteArray.size_extract]; omega⟩
  have HA1 : Aside0 (wc.heap[w.heap.size + 1]? = some (.cells #[.int .i64 0, .string ⟨#[]⟩, .string ⟨#[]⟩] 24 (0, 0)) ∧ wc.heap[w.heap.size]? = some (.cells #[.int .i64 0, .string ⟨#[]⟩, .string ⟨#[]⟩] 24 (0, 0))) := ⟨by
    constructor
    · rw [hwc, ← hza]; exact heap_alloc_new _ _
    · have h1 : wa.heap[w.heap.size]? = some (.cells #[.int .i64 0, .string ⟨#[]⟩, .string ⟨#[]⟩] 24 (0, 0)) := by rw [hwa]; exact heap_alloc_new _ _
      exact (HC.out.block _ (blk_lt h1)).trans h1⟩
  have HZC : Aside0 (wc.heap.size = w.heap.size + 2) := ⟨by rw [hwc, ← Nat.add_assoc w.heap.size 1 1, ← hza]; simp⟩
  have HBC : Aside0 (Below w.heap.size w wc) := ⟨HA.out.trans (HC.out.mono (by omega))⟩
  clear hR H1 H2 H3 hwa hwc hsz h
  go_enter Tryd.func25, Tryd.ntmps25
  go_upto_region 2 with (fail)
  rw [HHW.out]
  go_upto_region 10 with (go_at_call 52; first
    | ((with_reducible refine (C1.out _ HR.out).mono ?_); rintro e w2 ⟨rfl, rfl⟩)
    | ((with_reducible refine (C2.out _ HR.out).mono ?_); rintro e w2 ⟨rfl, rfl⟩)
    | ((with_reducible refine (C3.out _ HR.out).mono ?_); rintro e w2 ⟨rfl, rfl⟩))
  obtain ⟨wd, hwd⟩ : ∃ wd, wd = w2.setCell ⟨b, 0, none⟩ (.string s1) := ⟨_, rfl⟩
  have HRd : Aside0 (Rd wd b s1) := ⟨by rw [hwd]; exact HR.out.set s1⟩
  have HZd : Aside0 (wd.heap.size = w.heap.size + 2) := ⟨by rw [hwd, ← HZC.out]; simp [World.setCell]⟩
  have HAd : Aside0 (wd.heap[w.heap.size + 1]? = some (.cells #[.int .i64 0, .string ⟨#[]⟩, .string ⟨#[]⟩] 24 (0, 0)) ∧ wd.heap[w.heap.size]? = some (.cells #[.int .i64 0, .string ⟨#[]⟩, .string ⟨#[]⟩] 24 (0, 0))) := ⟨by
    rw [hwd]
    exact ⟨blk_far HA1.out.1 (by show w.heap.size + 1 ≠ b; omega) _, blk_far HA1.out.2 (by show w.heap.size ≠ b; omega) _⟩⟩
  have HKd : Aside0 (Kp w.heap.size b w wd) := ⟨by
    rw [hwd]
    exact Kp.set ⟨HBC.out.mono (by omega), fun i hi hn => HBC.out.block i hi⟩ _⟩
  rw [← hwd]
  have CL := Aside0.mk (literal_plain b s1 l wd HRd.out hl1.out HS1.out)
  clear hwd
  go_upto_region 11 with (go_at_call 55; (with_reducible refine CL.out.mono ?_); rintro e w3 ⟨rfl, hr, hk⟩; have HR3 := Aside0.mk hr; have HK3 := Aside0.mk hk; have hn1 := (hk.2 (w.heap.size + 1) (by rw [HZd.out]; omega) (by omega)).trans HAd.out.1; have g0 := blk_cell hn1 0; have g1 := blk_cell hn1 1; have g2 := blk_cell hn1 2; simp at g0 g1 g2; have e0 := blk_frozen hn1 0; have e1 := blk_frozen hn1 1; have e2 := blk_frozen hn1 2; have HN1 := Aside0.mk hn1; clear hn1 hr hk)
  clear g0 g1 g2 e0 e1 e2
  have hf := three_set HN1.out (.int .i64 3) (.string ⟨l.toArray⟩) (.string ⟨#[]⟩)
  have hKw : Kp w.heap.size b w w3 := HKd.out.trans ⟨HK3.out.1, fun i hi hn => HK3.out.2 i (by rw [HZd.out]; omega) hn⟩
  have HRf : Aside0 (Rd _ b ⟨#[]⟩) := ⟨((HR3.out.far (p := ⟨w.heap.size + 1, 0, none⟩) (by show b ≠ w.heap.size + 1; omega) (.int .i64 3)).far (p := ⟨w.heap.size + 1, 1, none⟩) (by show b ≠ w.heap.size + 1; omega) (.string ⟨l.toArray⟩)).far (p := ⟨w.heap.size + 1, 2, none⟩) (by show b ≠ w.heap.size + 1; omega) (.string ⟨#[]⟩)⟩
  have HKf : Aside0 (Kp w.heap.size b w _) := ⟨((hKw.far hbl (p := ⟨w.heap.size + 1, 0, none⟩) (by show w.heap.size ≤ w.heap.size + 1; omega) (.int .i64 3)).far hbl (p := ⟨w.heap.size + 1, 1, none⟩) (by show w.heap.size ≤ w.heap.size + 1; omega) (.string ⟨l.toArray⟩)).far hbl (p := ⟨w.heap.size + 1, 2, none⟩) (by show w.heap.size ≤ w.heap.size + 1; omega) (.string ⟨#[]⟩)⟩
  have hA0 := (HK3.out.2 w.heap.size (by rw [HZd.out]; omega) (by omega)).trans HAd.out.2
  have HA0 := Aside0.mk (blk_far (p := ⟨w.heap.size + 1, 2, none⟩) (blk_far (p := ⟨w.heap.size + 1, 1, none⟩) (blk_far (p := ⟨w.heap.size + 1, 0, none⟩) hA0 (by show w.heap.size ≠ w.heap.size + 1; omega) (.int .i64 3)) (by show w.heap.size ≠ w.heap.size + 1; omega) (.string ⟨l.toArray⟩)) (by show w.heap.size ≠ w.heap.size + 1; omega) (.string ⟨#[]⟩))
  generalize ((w3.setCell ⟨w.heap.size + 1, 0, none⟩ (.int .i64 3)).setCell ⟨w.heap.size + 1, 1, none⟩ (.string ⟨l.toArray⟩)).setCell ⟨w.heap.size + 1, 2, none⟩ (.string ⟨#[]⟩) = wf at hf HRf HKf HA0 ⊢
  have HTf := Aside0.mk (hT.below (hB.trans (HKf.out.1.mono hb)))
  have HF := Aside0.mk hf
  have q0 := blk_cell hf 0
  have q1 := blk_cell hf 1
  have q2 := blk_cell hf 2
  simp at q0 q1 q2
  obtain ⟨r0, r1, rf⟩ := HRf.out.cells
  have CI : Aside0 (∀ W, Tabs W → Calls Tryd.prog 14 #[.agg #[.int .i64 3, .string ⟨l.toArray⟩, .string ⟨#[]⟩]] W fun e w' => e = .returned (.bool true) ∧ Below W.heap.size W w') := ⟨fun W h => by
    have := refIs_any ⟨3, ⟨l.toArray⟩, ⟨#[]⟩⟩ W hll (by show 0 ≤ 1000; decide) h
    rwa [hok] at this⟩
  have HZf : Aside0 (w.heap.size ≤ wf.heap.size) := ⟨by have := blk_lt hf; omega⟩
  clear hf hA0 hKw
  go_upto_region 13 with (go_at_call 14; (with_reducible refine (CI.out _ HTf.out).mono ?_); rintro e w5 ⟨rfl, hb5⟩; have HR5 := Aside0.mk (HRf.out.below hb5); have HK5 := Aside0.mk (HKf.out.below HZf.out hb5 hbl); have HF5 := Aside0.mk ((hb5.block _ (blk_lt HF.out)).trans HF.out); have HA5 := Aside0.mk ((hb5.block _ (blk_lt HA0.out)).trans HA0.out); clear hb5)
  clear q0 q1 q2 r0 r1 rf
  have q0 := blk_cell HF5.out 0
  have q1 := blk_cell HF5.out 1
  have q2 := blk_cell HF5.out 2
  have n0 := blk_cell HA5.out 0
  have n1 := blk_cell HA5.out 1
  have n2 := blk_cell HA5.out 2
  simp at q0 q1 q2 n0 n1 n2
  have k0 := blk_frozen HA5.out 0
  have k1 := blk_frozen HA5.out 1
  have k2 := blk_frozen HA5.out 2
  have CB := Aside0.mk (blanks_none b w5 HR5.out)
  go_wp2_with (go_at_call 57; (with_reducible refine CB.out.mono ?_); rintro e w6 ⟨rfl, rfl⟩)
  have hf := three_set HA5.out (.int .i64 3) (.string ⟨l.toArray⟩) (.string ⟨#[]⟩)
  have HRf := Aside0.mk (((HR5.out.far (p := ⟨w.heap.size, 0, none⟩) (by show b ≠ w.heap.size; omega) (.int .i64 3)).far (p := ⟨w.heap.size, 1, none⟩) (by show b ≠ w.heap.size; omega) (.string ⟨l.toArray⟩)).far (p := ⟨w.heap.size, 2, none⟩) (by show b ≠ w.heap.size; omega) (.string ⟨#[]⟩))
  have HKf := Aside0.mk (((HK5.out.far hbl (p := ⟨w.heap.size, 0, none⟩) (Nat.le_refl _) (.int .i64 3)).far hbl (p := ⟨w.heap.size, 1, none⟩) (Nat.le_refl _) (.string ⟨l.toArray⟩)).far hbl (p := ⟨w.heap.size, 2, none⟩) (Nat.le_refl _) (.string ⟨#[]⟩))
  generalize ((w6.setCell ⟨w.heap.size, 0, none⟩ (.int .i64 3)).setCell ⟨w.heap.size, 1, none⟩ (.string ⟨l.toArray⟩)).setCell ⟨w.heap.size, 2, none⟩ (.string ⟨#[]⟩) = wz at hf HRf HKf ⊢
  have z0 := blk_cell hf 0
  have z1 := blk_cell hf 1
  have z2 := blk_cell hf 2
  simp at z0 z1 z2
  clear hf
  refine bodyPost_ret (by simp [results, Tryd.results25, go_sem, z0, z1, z2]; try rfl) rfl ?_
  exact ⟨rfl, HRf.out, HKf.out⟩
end Go.Proofs.YtmenjcjpihpjjaaDoor.Tm
