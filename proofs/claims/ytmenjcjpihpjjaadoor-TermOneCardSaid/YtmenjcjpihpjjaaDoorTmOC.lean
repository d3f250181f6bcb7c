/- The walks of the reader's term at the show of any term that may be. -/
import Derived.Test.YtmenjcjpihpjjaaDoorTmOB
set_option linter.unusedSimpArgs false
set_option linter.unusedVariables false
namespace Go.Proofs.YtmenjcjpihpjjaaDoor.Tm
open Go Go.RowKit Go.Shelf Go.Proofs.YtmenjcjpihpjjaaDoorW.PrintWords

theorem literal_any (a : Trm) (b : Nat) (s : ByteArray) (w : World) (hR : Rd w b s) (h : s.data.toList = qL (lst a.t) ++ 34 :: tailL a) (hs2 : s.size ≤ 50000) (hok : isB a = true) (hk : a.k = 3 ∨ a.k = 4 ∨ a.k = 5) :
    Calls Tryd.prog 55 #[.pointer (some ⟨b, 0, none⟩)] w fun e w' => e = .returned (.agg #[.int .i64 a.k, .string a.t, .string a.x]) ∧ Rd w' b ⟨#[]⟩ ∧ Kp w.heap.size b w w' := by
  obtain ⟨k, t, x⟩ := a
  obtain ⟨-, -, -, hx0, -, -⟩ := is_sizes hok
  simp only at hk hx0 h ⊢
  rcases hk with rfl | rfl | rfl
  · have := literal_plain b s (lst t) w hR (by simpa [tailL] using h) hs2
    rw [← ba_lst t] at this
    rw [empty_list (hx0 (by omega))]
    exact this
  · have hl : langB x = true := by
      unfold isB at hok; simp at hok; exact hok.2
    have := literal_lang b s (lst t) x w hR (by simpa [tailL] using h) hs2 hl
    rw [← ba_lst t] at this
    exact this
  · have hl : iriB x = true := by
      unfold isB at hok; simp at hok; exact hok.2
    have := literal_typed b s (lst t) x w hR (by simpa [tailL] using h) hs2 hl
    rw [← ba_lst t] at this
    exact this
set_option maxRecDepth 100000 in
set_option maxHeartbeats 8000000 in
theorem term_iri (b : Nat) (s : ByteArray) (t : ByteArray) (w0 w : World) (hR : Rd w b s) (h : s.data.toList = [60] ++ (lst t ++ [62])) (hs2 : s.size ≤ 50000) (hok : isB ⟨1, t, ⟨#[]⟩⟩ = true)
    (hT : Tabs w0) (hB : Below w0.heap.size w0 w) (hb : w0.heap.size ≤ b) :
    Calls Tryd.prog 25 #[.pointer (some ⟨b, 0, none⟩)] w fun e w' => e = .returned (.agg #[.int .i64 1, .string t, .string ⟨#[]⟩]) ∧ Rd w' b ⟨#[]⟩ ∧ Kp w.heap.size b w w' := by
  have hbl := blk_lt hR
  have hsz : 1 ≤ s.size := by rw [← size_list, h]; simp
  have hsl := is_sizes hok
  simp only at hsl
  obtain ⟨wa, hwa, HA⟩ : ∃ wa, wa = w.alloc (.cells #[.int .i64 0, .string ⟨#[]⟩, .string ⟨#[]⟩] 24) ∧ Aside0 (Below w.heap.size w wa) := ⟨_, rfl, ⟨below_alloc (Below.refl _ _) _⟩⟩
  obtain ⟨wc, hwc, HC⟩ : ∃ wc, wc = wa.alloc (.cells #[.int .i64 0, .string ⟨#[]⟩, .string ⟨#[]⟩] 24) ∧ Aside0 (Below wa.heap.size wa wc) := ⟨_, rfl, ⟨below_alloc (Below.refl _ _) _⟩⟩
  have hza : wa.heap.size = w.heap.size + 1 := by rw [hwa]; simp
  have HR := Aside0.mk ((hR.below HA.out).below HC.out)
  have C1 : Aside0 (∀ W, Rd W b s → Calls Tryd.prog 52 #[.pointer (some ⟨b, 0, none⟩), .string ⟨#[60]⟩] W fun e w' => e = .returned (.bool true) ∧ w' = W) := ⟨fun W hr => by
    have := has_any b s ⟨#[60]⟩ W hr hs2 (by decide)
    rwa [show hasB s ⟨#[60]⟩ = true by rw [has_eq, h, decide_eq_true (show (⟨#[60]⟩ : ByteArray).size ≤ s.size by show 1 ≤ s.size; omega)]; rfl] at this⟩
  have HHW : Aside0 ((w.alloc (.cells #[.int .i64 0, .string ⟨#[]⟩, .string ⟨#[]⟩] 24)).alloc (.cells #[.int .i64 0, .string ⟨#[]⟩, .string ⟨#[]⟩] 24) = wc) := ⟨by rw [hwc, hwa]⟩
  obtain ⟨c0, c1, f0⟩ := HR.out.cells
  have hs1 : (1 : Int) ≤ (s.size : Int) := by omega
  obtain ⟨s1, hs1e⟩ : ∃ s1, s.extract 1 s.size = s1 := ⟨_, rfl⟩
  have hd1 : s1.data.toList = lst t ++ [62] := by
    rw [← hs1e, show 1 = ([60] : List UInt8).length from rfl, drop_at (a := [60]) (m := lst t ++ [62]) h]
  have hl1 := Aside0.mk hd1
  have HS1 : Aside0 (s1.size ≤ 50000) := ⟨by rw [← hs1e, ByteArray.size_extract]; omega⟩
  have HA1 : Aside0 (wc.heap[w.heap.size + 1]? = some (.cells #[.int .i64 0, .string ⟨#[]⟩, .string ⟨#[]⟩] 24 (0, 0)) ∧ wc.heap[w.heap.size]? = some (.cells #[.int .i64 0, .string ⟨#[]⟩, .string ⟨#[]⟩] 24 (0, 0))) := ⟨by
    constructor
    · rw [hwc, ← hza]; exact heap_alloc_new _ _
    · have h1 : wa.heap[w.heap.size]? = some (.cells #[.int .i64 0, .string ⟨#[]⟩, .string ⟨#[]⟩] 24 (0, 0)) := by rw [hwa]; exact heap_alloc_new _ _
      exact (HC.out.block _ (blk_lt h1)).trans h1⟩
  have HZC : Aside0 (wc.heap.size = w.heap.size + 2) := ⟨by rw [hwc, ← Nat.add_assoc w.heap.size 1 1, ← hza]; simp⟩
  have HBC : Aside0 (Below w.heap.size w wc) := ⟨HA.out.trans (HC.out.mono (by omega))⟩
  have HOK := Aside0.mk hok
  have HSL := Aside0.mk hsl
  clear hR hwa hwc hsz h hd1 hok hsl
  go_enter Tryd.func25, Tryd.ntmps25
  go_upto_region 2 with (fail)
  rw [HHW.out]
  go_upto_region 4 with (go_at_call 52; first
    | ((with_reducible refine (C1.out _ HR.out).mono ?_); rintro e w2 ⟨rfl, rfl⟩))
  obtain ⟨wd, hwd⟩ : ∃ wd, wd = w2.setCell ⟨b, 0, none⟩ (.string s1) := ⟨_, rfl⟩
  have HRd : Aside0 (Rd wd b s1) := ⟨by rw [hwd]; exact HR.out.set s1⟩
  have HZd : Aside0 (wd.heap.size = w.heap.size + 2) := ⟨by rw [hwd, ← HZC.out]; simp [World.setCell]⟩
  have HAd : Aside0 (wd.heap[w.heap.size + 1]? = some (.cells #[.int .i64 0, .string ⟨#[]⟩, .string ⟨#[]⟩] 24 (0, 0)) ∧ wd.heap[w.heap.size]? = some (.cells #[.int .i64 0, .string ⟨#[]⟩, .string ⟨#[]⟩] 24 (0, 0))) := ⟨by
    rw [hwd]
    exact ⟨blk_far HA1.out.1 (by show w.heap.size + 1 ≠ b; omega) _, blk_far HA1.out.2 (by show w.heap.size ≠ b; omega) _⟩⟩
  have HKd : Aside0 (Kp w.heap.size b w wd) := ⟨by
    rw [hwd]
    exact Kp.set ⟨HBC.out.mono (by omega), fun i hi hn => HBC.out.block i hi⟩ _⟩
  rw [← hwd]
  have hti : iriB t = true := by have := HOK.out; unfold isB at this; simp at this; exact this.1
  have CL := Aside0.mk (upTo_62 b s1 (lst t) [] wd HRd.out (by rw [hl1.out, qL_plain (lst t) (fun c hc => (iri_bytes hti c hc).1)]) HS1.out (fun c hc => iri_bytes hti c hc))
  rw [← ba_lst t] at CL
  clear hti
  clear hwd c0 c1 f0
  go_upto_region 11 with (go_at_call 53; (with_reducible refine CL.out.mono ?_); rintro e w3 ⟨rfl, hr, hk⟩; have HR3 := Aside0.mk hr; have HK3 := Aside0.mk hk; have hn1 := (hk.2 (w.heap.size + 1) (by rw [HZd.out]; omega) (by omega)).trans HAd.out.1; have g0 := blk_cell hn1 0; have g1 := blk_cell hn1 1; have g2 := blk_cell hn1 2; simp at g0 g1 g2; have e0 := blk_frozen hn1 0; have e1 := blk_frozen hn1 1; have e2 := blk_frozen hn1 2; have HN1 := Aside0.mk hn1; clear hn1 hr hk)
  clear g0 g1 g2 e0 e1 e2
  have hf := three_set HN1.out (.int .i64 1) (.string t) (.string ⟨#[]⟩)
  have hKw : Kp w.heap.size b w w3 := HKd.out.trans ⟨HK3.out.1, fun i hi hn => HK3.out.2 i (by rw [HZd.out]; omega) hn⟩
  have HRf : Aside0 (Rd _ b ⟨#[]⟩) := ⟨((HR3.out.far (p := ⟨w.heap.size + 1, 0, none⟩) (by show b ≠ w.heap.size + 1; omega) (.int .i64 1)).far (p := ⟨w.heap.size + 1, 1, none⟩) (by show b ≠ w.heap.size + 1; omega) (.string t)).far (p := ⟨w.heap.size + 1, 2, none⟩) (by show b ≠ w.heap.size + 1; omega) (.string ⟨#[]⟩)⟩
  have HKf : Aside0 (Kp w.heap.size b w _) := ⟨((hKw.far hbl (p := ⟨w.heap.size + 1, 0, none⟩) (by show w.heap.size ≤ w.heap.size + 1; omega) (.int .i64 1)).far hbl (p := ⟨w.heap.size + 1, 1, none⟩) (by show w.heap.size ≤ w.heap.size + 1; omega) (.string t)).far hbl (p := ⟨w.heap.size + 1, 2, none⟩) (by show w.heap.size ≤ w.heap.size + 1; omega) (.string ⟨#[]⟩)⟩
  have hA0 := (HK3.out.2 w.heap.size (by rw [HZd.out]; omega) (by omega)).trans HAd.out.2
  have HA0 := Aside0.mk (blk_far (p := ⟨w.heap.size + 1, 2, none⟩) (blk_far (p := ⟨w.heap.size + 1, 1, none⟩) (blk_far (p := ⟨w.heap.size + 1, 0, none⟩) hA0 (by show w.heap.size ≠ w.heap.size + 1; omega) (.int .i64 1)) (by show w.heap.size ≠ w.heap.size + 1; omega) (.string t)) (by show w.heap.size ≠ w.heap.size + 1; omega) (.string ⟨#[]⟩))
  generalize ((w3.setCell ⟨w.heap.size + 1, 0, none⟩ (.int .i64 1)).setCell ⟨w.heap.size + 1, 1, none⟩ (.string t)).setCell ⟨w.heap.size + 1, 2, none⟩ (.string ⟨#[]⟩) = wf at hf HRf HKf HA0 ⊢
  have HTf := Aside0.mk (hT.below (hB.trans (HKf.out.1.mono hb)))
  have HF := Aside0.mk hf
  have q0 := blk_cell hf 0
  have q1 := blk_cell hf 1
  have q2 := blk_cell hf 2
  simp at q0 q1 q2
  obtain ⟨r0, r1, rf⟩ := HRf.out.cells
  have CI : Aside0 (∀ W, Tabs W → Calls Tryd.prog 14 #[.agg #[.int .i64 1, .string t, .string ⟨#[]⟩]] W fun e w' => e = .returned (.bool true) ∧ Below W.heap.size W w') := ⟨fun W h => by
    have := refIs_any ⟨1, t, ⟨#[]⟩⟩ W (by show (t : ByteArray).size ≤ 1000; have := HSL.out.1; omega) (by show (⟨#[]⟩ : ByteArray).size ≤ 1000; have := HSL.out.2.1; omega) h
    rwa [HOK.out] at this⟩
  have HZf : Aside0 (w.heap.size ≤ wf.heap.size) := ⟨by have := blk_lt hf; omega⟩
  clear hf hA0 hKw
  go_upto_region 13 with (go_at_call 14; (with_reducible refine (CI.out _ HTf.out).mono ?_); rintro e w5 ⟨rfl, hb5⟩; have HR5 := Aside0.mk (HRf.out.below hb5); have HK5 := Aside0.mk (HKf.out.below HZf.out hb5 hbl); have HF5 := Aside0.mk ((hb5.block _ (blk_lt HF.out)).trans HF.out); have HA5 := Aside0.mk ((hb5.block _ (blk_lt HA0.out)).trans HA0.out); clear hb5)
  clear q0 q1 q2 r0 r1 rf
  have q0 := blk_cell HF5.out 0
  have q1 := blk_cell HF5.out 1
  have q2 := blk_cell HF5.out 2
  have n0 := blk_cell HA5.out 0
  have n1 := blk_cell HA5.out 1
  have n2 := blk_cell HA5.out 2
  simp at q0 q1 q2 n0 n1 n2
  have k0 := blk_frozen HA5.out 0
  have k1 := blk_frozen HA5.out 1
  have k2 := blk_frozen HA5.out 2
  have CB := Aside0.mk (blanks_none b w5 HR5.out)
  go_wp2_with (go_at_call 57; (with_reducible refine CB.out.mono ?_); rintro e w6 ⟨rfl, rfl⟩)
  have hf := three_set HA5.out (.int .i64 1) (.string t) (.string ⟨#[]⟩)
  have HRf := Aside0.mk (((HR5.out.far (p := ⟨w.heap.size, 0, none⟩) (by show b ≠ w.heap.size; omega) (.int .i64 1)).far (p := ⟨w.heap.size, 1, none⟩) (by show b ≠ w.heap.size; omega) (.string t)).far (p := ⟨w.heap.size, 2, none⟩) (by show b ≠ w.heap.size; omega) (.string ⟨#[]⟩))
  have HKf := Aside0.mk (((HK5.out.far hbl (p := ⟨w.heap.size, 0, none⟩) (Nat.le_refl _) (.int .i64 1)).far hbl (p := ⟨w.heap.size, 1, none⟩) (Nat.le_refl _) (.string t)).far hbl (p := ⟨w.heap.size, 2, none⟩) (Nat.le_refl _) (.string ⟨#[]⟩))
  generalize ((w6.setCell ⟨w.heap.size, 0, none⟩ (.int .i64 1)).setCell ⟨w.heap.size, 1, none⟩ (.string t)).setCell ⟨w.heap.size, 2, none⟩ (.string ⟨#[]⟩) = wz at hf HRf HKf ⊢
  have z0 := blk_cell hf 0
  have z1 := blk_cell hf 1
  have z2 := blk_cell hf 2
  simp at z0 z1 z2
  clear hf
  refine bodyPost_ret (by simp [results, Tryd.results25, go_sem, z0, z1, z2]; try rfl) rfl ?_
  exact ⟨rfl, HRf.out, HKf.out⟩
set_option maxRecDepth 100000 in
set_option maxHeartbeats 8000000 in
theorem term_blank (b : Nat) (s : ByteArray) (t : ByteArray) (w0 w : World) (hR : Rd w b s) (h : s.data.toList = [95, 58] ++ lst t) (hs2 : s.size ≤ 50000) (hok : isB ⟨2, t, ⟨#[]⟩⟩ = true)
    (hT : Tabs w0) (hB : Below w0.heap.size w0 w) (hb : w0.heap.size ≤ b) :
    Calls Tryd.prog 25 #[.pointer (some ⟨b, 0, none⟩)] w fun e w' => e = .returned (.agg #[.int .i64 2, .string t, .string ⟨#[]⟩]) ∧ Rd w' b ⟨#[]⟩ ∧ Kp w.heap.size b w w' := by
  have hbl := blk_lt hR
  have hsz : 2 ≤ s.size := by rw [← size_list, h]; simp
  have hsl := is_sizes hok
  simp only at hsl
  obtain ⟨wa, hwa, HA⟩ : ∃ wa, wa = w.alloc (.cells #[.int .i64 0, .string ⟨#[]⟩, .string ⟨#[]⟩] 24) ∧ Aside0 (Below w.heap.size w wa) := ⟨_, rfl, ⟨below_alloc (Below.refl _ _) _⟩⟩
  obtain ⟨wc, hwc, HC⟩ : ∃ wc, wc = wa.alloc (.cells #[.int .i64 0, .string ⟨#[]⟩, .string ⟨#[]⟩] 24) ∧ Aside0 (Below wa.heap.size wa wc) := ⟨_, rfl, ⟨below_alloc (Below.refl _ _) _⟩⟩
  have hza : wa.heap.size = w.heap.size + 1 := by rw [hwa]; simp
  have HR := Aside0.mk ((hR.below HA.out).below HC.out)
  have C1 : Aside0 (∀ W, Rd W b s → Calls Tryd.prog 52 #[.pointer (some ⟨b, 0, none⟩), .string ⟨#[60]⟩] W fun e w' => e = .returned (.bool false) ∧ w' = W) := ⟨fun W hr => by
    have := has_any b s ⟨#[60]⟩ W hr hs2 (by decide)
    rwa [show hasB s ⟨#[60]⟩ = false by rw [has_eq, h, Bool.and_eq_false_iff]; right; rfl] at this⟩
  have C2 : Aside0 (∀ W, Rd W b s → Calls Tryd.prog 52 #[.pointer (some ⟨b, 0, none⟩), .string ⟨#[95, 58]⟩] W fun e w' => e = .returned (.bool true) ∧ w' = W) := ⟨fun W hr => by
    have := has_any b s ⟨#[95, 58]⟩ W hr hs2 (by decide)
    rwa [show hasB s ⟨#[95, 58]⟩ = true by rw [has_eq, h, decide_eq_true (show (⟨#[95, 58]⟩ : ByteArray).size ≤ s.size by show 2 ≤ s.size; omega)]; rfl] at this⟩
  have HHW : Aside0 ((w.alloc (.cells #[.int .i64 0, .string ⟨#[]⟩, .string ⟨#[]⟩] 24)).alloc (.cells #[.int .i64 0, .string ⟨#[]⟩, .string ⟨#[]⟩] 24) = wc) := ⟨by rw [hwc, hwa]⟩
  obtain ⟨c0, c1, f0⟩ := HR.out.cells
  have hs1 : (2 : Int) ≤ (s.size : Int) := by omega
  obtain ⟨s1, hs1e⟩ : ∃ s1, s.extract 2 s.size = s1 := ⟨_, rfl⟩
  have hd1 : s1.data.toList = lst t := by
    rw [← hs1e, show 2 = ([95, 58] : List UInt8).length from rfl, drop_at (a := [95, 58]) (m := lst t) h]
  have hl1 := Aside0.mk hd1
  have HS1 : Aside0 (s1.size ≤ 50000) := ⟨by rw [← hs1e, ByteArray.size_extract]; omega⟩
  have HA1 : Aside0 (wc.heap[w.heap.size + 1]? = some (.cells #[.int .i64 0, .string ⟨#[]⟩, .string ⟨#[]⟩] 24 (0, 0)) ∧ wc.heap[w.heap.size]? = some (.cells #[.int .i64 0, .string ⟨#[]⟩, .string ⟨#[]⟩] 24 (0, 0))) := ⟨by
    constructor
    · rw [hwc, ← hza]; exact heap_alloc_new _ _
    · have h1 : wa.heap[w.heap.size]? = some (.cells #[.int .i64 0, .string ⟨#[]⟩, .string ⟨#[]⟩] 24 (0, 0)) := by rw [hwa]; exact heap_alloc_new _ _
      exact (HC.out.block _ (blk_lt h1)).trans h1⟩
  have HZC : Aside0 (wc.heap.size = w.heap.size + 2) := ⟨by rw [hwc, ← Nat.add_assoc w.heap.size 1 1, ← hza]; simp⟩
  have HBC : Aside0 (Below w.heap.size w wc) := ⟨HA.out.trans (HC.out.mono (by omega))⟩
  have HOK := Aside0.mk hok
  have HSL := Aside0.mk hsl
  clear hR hwa hwc hsz h hd1 hok hsl
  go_enter Tryd.func25, Tryd.ntmps25
  go_upto_region 2 with (fail)
  rw [HHW.out]
  go_upto_region 7 with (go_at_call 52; first
    | ((with_reducible refine (C1.out _ HR.out).mono ?_); rintro e w2 ⟨rfl, rfl⟩)
    | ((with_reducible refine (C2.out _ HR.out).mono ?_); rintro e w2 ⟨rfl, rfl⟩))
  obtain ⟨wd, hwd⟩ : ∃ wd, wd = w2.setCell ⟨b, 0, none⟩ (.string s1) := ⟨_, rfl⟩
  have HRd : Aside0 (Rd wd b s1) := ⟨by rw [hwd]; exact HR.out.set s1⟩
  have HZd : Aside0 (wd.heap.size = w.heap.size + 2) := ⟨by rw [hwd, ← HZC.out]; simp [World.setCell]⟩
  have HAd : Aside0 (wd.heap[w.heap.size + 1]? = some (.cells #[.int .i64 0, .string ⟨#[]⟩, .string ⟨#[]⟩] 24 (0, 0)) ∧ wd.heap[w.heap.size]? = some (.cells #[.int .i64 0, .string ⟨#[]⟩, .string ⟨#[]⟩] 24 (0, 0))) := ⟨by
    rw [hwd]
    exact ⟨blk_far HA1.out.1 (by show w.heap.size + 1 ≠ b; omega) _, blk_far HA1.out.2 (by show w.heap.size ≠ b; omega) _⟩⟩
  have HKd : Aside0 (Kp w.heap.size b w wd) := ⟨by
    rw [hwd]
    exact Kp.set ⟨HBC.out.mono (by omega), fun i hi hn => HBC.out.block i hi⟩ _⟩
  rw [← hwd]
  have hti : labelB t = true := by have := HOK.out; unfold isB at this; simp at this; exact this.1
  have hte : s1 = t := by rw [ba_lst s1, ba_lst t]; congr 2; exact hl1.out
  have CL := Aside0.mk (run_all b s1 false wd HRd.out HS1.out (fun i hi => .inl (by rw [hte] at hi ⊢; exact label_bytes hti i hi)))
  have CL : Aside0 (Calls Tryd.prog 54 #[.pointer (some ⟨b, 0, none⟩), .bool false] wd fun e w' => e = .returned (.string t) ∧ Rd w' b ⟨#[]⟩ ∧ Kp wd.heap.size b wd w') := ⟨CL.out.mono fun e w' hh => ⟨by rw [← hte]; exact hh.1, hh.2⟩⟩
  clear hti hte
  clear hwd c0 c1 f0
  go_upto_region 11 with (go_at_call 54; (with_reducible refine CL.out.mono ?_); rintro e w3 ⟨rfl, hr, hk⟩; have HR3 := Aside0.mk hr; have HK3 := Aside0.mk hk; have hn1 := (hk.2 (w.heap.size + 1) (by rw [HZd.out]; omega) (by omega)).trans HAd.out.1; have g0 := blk_cell hn1 0; have g1 := blk_cell hn1 1; have g2 := blk_cell hn1 2; simp at g0 g1 g2; have e0 := blk_frozen hn1 0; have e1 := blk_frozen hn1 1; have e2 := blk_frozen hn1 2; have HN1 := Aside0.mk hn1; clear hn1 hr hk)
  clear g0 g1 g2 e0 e1 e2
  have hf := three_set HN1.out (.int .i64 2) (.string t) (.string ⟨#[]⟩)
  have hKw : Kp w.heap.size b w w3 := HKd.out.trans ⟨HK3.out.1, fun i hi hn => HK3.out.2 i (by rw [HZd.out]; omega) hn⟩
  have HRf : Aside0 (Rd _ b ⟨#[]⟩) := ⟨((HR3.out.far (p := ⟨w.heap.size + 1, 0, none⟩) (by show b ≠ w.heap.size + 1; omega) (.int .i64 2)).far (p := ⟨w.heap.size + 1, 1, none⟩) (by show b ≠ w.heap.size + 1; omega) (.string t)).far (p := ⟨w.heap.size + 1, 2, none⟩) (by show b ≠ w.heap.size + 1; omega) (.string ⟨#[]⟩)⟩
  have HKf : Aside0 (Kp w.heap.size b w _) := ⟨((hKw.far hbl (p := ⟨w.heap.size + 1, 0, none⟩) (by show w.heap.size ≤ w.heap.size + 1; omega) (.int .i64 2)).far hbl (p := ⟨w.heap.size + 1, 1, none⟩) (by show w.heap.size ≤ w.heap.size + 1; omega) (.string t)).far hbl (p := ⟨w.heap.size + 1, 2, none⟩) (by show w.heap.size ≤ w.heap.size + 1; omega) (.string ⟨#[]⟩)⟩
  have hA0 := (HK3.out.2 w.heap.size (by rw [HZd.out]; omega) (by omega)).trans HAd.out.2
  have HA0 := Aside0.mk (blk_far (p := ⟨w.heap.size + 1, 2, none⟩) (blk_far (p := ⟨w.heap.size + 1, 1, none⟩) (blk_far (p := ⟨w.heap.size + 1, 0, none⟩) hA0 (by show w.heap.size ≠ w.heap.size + 1; omega) (.int .i64 2)) (by show w.heap.size ≠ w.heap.size + 1; omega) (.string t)) (by show w.heap.size ≠ w.heap.size + 1; omega) (.string ⟨#[]⟩))
  generalize ((w3.setCell ⟨w.heap.size + 1, 0, none⟩ (.int .i64 2)).setCell ⟨w.heap.size + 1, 1, none⟩ (.string t)).setCell ⟨w.heap.size + 1, 2, none⟩ (.string ⟨#[]⟩) = wf at hf HRf HKf HA0 ⊢
  have HTf := Aside0.mk (hT.below (hB.trans (HKf.out.1.mono hb)))
  have HF := Aside0.mk hf
  have q0 := blk_cell hf 0
  have q1 := blk_cell hf 1
  have q2 := blk_cell hf 2
  simp at q0 q1 q2
  obtain ⟨r0, r1, rf⟩ := HRf.out.cells
  have CI : Aside0 (∀ W, Tabs W → Calls Tryd.prog 14 #[.agg #[.int .i64 2, .string t, .string ⟨#[]⟩]] W fun e w' => e = .returned (.bool true) ∧ Below W.heap.size W w') := ⟨fun W h => by
    have := refIs_any ⟨2, t, ⟨#[]⟩⟩ W (by show (t : ByteArray).size ≤ 1000; have := HSL.out.1; omega) (by show (⟨#[]⟩ : ByteArray).size ≤ 1000; have := HSL.out.2.1; omega) h
    rwa [HOK.out] at this⟩
  have HZf : Aside0 (w.heap.size ≤ wf.heap.size) := ⟨by have := blk_lt hf; omega⟩
  clear hf hA0 hKw
  go_upto_region 13 with (go_at_call 14; (with_reducible refine (CI.out _ HTf.out).mono ?_); rintro e w5 ⟨rfl, hb5⟩; have HR5 := Aside0.mk (HRf.out.below hb5); have HK5 := Aside0.mk (HKf.out.below HZf.out hb5 hbl); have HF5 := Aside0.mk ((hb5.block _ (blk_lt HF.out)).trans HF.out); have HA5 := Aside0.mk ((hb5.block _ (blk_lt HA0.out)).trans HA0.out); clear hb5)
  clear q0 q1 q2 r0 r1 rf
  have q0 := blk_cell HF5.out 0
  have q1 := blk_cell HF5.out 1
  have q2 := blk_cell HF5.out 2
  have n0 := blk_cell HA5.out 0
  have n1 := blk_cell HA5.out 1
  have n2 := blk_cell HA5.out 2
  simp at q0 q1 q2 n0 n1 n2
  have k0 := blk_frozen HA5.out 0
  have k1 := blk_frozen HA5.out 1
  have k2 := blk_frozen HA5.out 2
  have CB := Aside0.mk (blanks_none b w5 HR5.out)
  go_wp2_with (go_at_call 57; (with_reducible refine CB.out.mono ?_); rintro e w6 ⟨rfl, rfl⟩)
  have hf := three_set HA5.out (.int .i64 2) (.string t) (.string ⟨#[]⟩)
  have HRf := Aside0.mk (((HR5.out.far (p := ⟨w.heap.size, 0, none⟩) (by show b ≠ w.heap.size; omega) (.int .i64 2)).far (p := ⟨w.heap.size, 1, none⟩) (by show b ≠ w.heap.size; omega) (.string t)).far (p := ⟨w.heap.size, 2, none⟩) (by show b ≠ w.heap.size; omega) (.string ⟨#[]⟩))
  have HKf := Aside0.mk (((HK5.out.far hbl (p := ⟨w.heap.size, 0, none⟩) (Nat.le_refl _) (.int .i64 2)).far hbl (p := ⟨w.heap.size, 1, none⟩) (Nat.le_refl _) (.string t)).far hbl (p := ⟨w.heap.size, 2, none⟩) (Nat.le_refl _) (.string ⟨#[]⟩))
  generalize ((w6.setCell ⟨w.heap.size, 0, none⟩ (.int .i64 2)).setCell ⟨w.heap.size, 1, none⟩ (.string t)).setCell ⟨w.heap.size, 2, none⟩ (.string ⟨#[]⟩) = wz at hf HRf HKf ⊢
  have z0 := blk_cell hf 0
  have z1 := blk_cell hf 1
  have z2 := blk_cell hf 2
  simp at z0 z1 z2
  clear hf
  refine bodyPost_ret (by simp [results, Tryd.results25, go_sem, z0, z1, z2]; try rfl) rfl ?_
  exact ⟨rfl, HRf.out, HKf.out⟩
set_option maxRecDepth 100000 in
set_option maxHeartbeats 8000000 in
theorem term_lit (b : Nat) (s : ByteArray) (k : Int) (t x : ByteArray) (w0 w : World) (hR : Rd w b s) (h : s.data.toList = [34] ++ (qL (lst t) ++ 34 :: tailL ⟨k, t, x⟩)) (hs2 : s.size ≤ 50000) (hok : isB ⟨k, t, x⟩ = true) (hk : k = 3 ∨ k = 4 ∨ k = 5)
    (hT : Tabs w0) (hB : Below w0.heap.size w0 w) (hb : w0.heap.size ≤ b) :
    Calls Tryd.prog 25 #[.pointer (some ⟨b, 0, none⟩)] w fun e w' => e = .returned (.agg #[.int .i64 k, .string t, .string x]) ∧ Rd w' b ⟨#[]⟩ ∧ Kp w.heap.size b w w' := by
  have hbl := blk_lt hR
  have hsz : 1 ≤ s.size := by rw [← size_list, h]; simp
  have hsl := is_sizes hok
  simp only at hsl
  obtain ⟨wa, hwa, HA⟩ : ∃ wa, wa = w.alloc (.cells #[.int .i64 0, .string ⟨#[]⟩, .string ⟨#[]⟩] 24) ∧ Aside0 (Below w.heap.size w wa) := ⟨_, rfl, ⟨below_alloc (Below.refl _ _) _⟩⟩
  obtain ⟨wc, hwc, HC⟩ : ∃ wc, wc = wa.alloc (.cells #[.int .i64 0, .string ⟨#[]⟩, .string ⟨#[]⟩] 24) ∧ Aside0 (Below wa.heap.size wa wc) := ⟨_, rfl, ⟨below_alloc (Below.refl _ _) _⟩⟩
  have hza : wa.heap.size = w.heap.size + 1 := by rw [hwa]; simp
  have HR := Aside0.mk ((hR.below HA.out).below HC.out)
  have C1 : Aside0 (∀ W, Rd W b s → Calls Tryd.prog 52 #[.pointer (some ⟨b, 0, none⟩), .string ⟨#[60]⟩] W fun e w' => e = .returned (.bool false) ∧ w' = W) := ⟨fun W hr => by
    have := has_any b s ⟨#[60]⟩ W hr hs2 (by decide)
    rwa [show hasB s ⟨#[60]⟩ = false by rw [has_eq, h, Bool.and_eq_false_iff]; right; rfl] at this⟩
  have C2 : Aside0 (∀ W, Rd W b s → Calls Tryd.prog 52 #[.pointer (some ⟨b, 0, none⟩), .string ⟨#[95, 58]⟩] W fun e w' => e = .returned (.bool false) ∧ w' = W) := ⟨fun W hr => by
    have := has_any b s ⟨#[95, 58]⟩ W hr hs2 (by decide)
    rwa [show hasB s ⟨#[95, 58]⟩ = false by rw [has_eq, h, Bool.and_eq_false_iff]; right; rfl] at this⟩
  have C3 : Aside0 (∀ W, Rd W b s → Calls Tryd.prog 52 #[.pointer (some ⟨b, 0, none⟩), .string ⟨#[34]⟩] W fun e w' => e = .returned (.bool true) ∧ w' = W) := ⟨fun W hr => by
    have := has_any b s ⟨#[34]⟩ W hr hs2 (by decide)
    rwa [show hasB s ⟨#[34]⟩ = true by rw [has_eq, h, decide_eq_true (show (⟨#[34]⟩ : ByteArray).size ≤ s.size by show 1 ≤ s.size; omega)]; rfl] at this⟩
  have HHW : Aside0 ((w.alloc (.cells #[.int .i64 0, .string ⟨#[]⟩, .string ⟨#[]⟩] 24)).alloc (.cells #[.int .i64 0, .string ⟨#[]⟩, .string ⟨#[]⟩] 24) = wc) := ⟨by rw [hwc, hwa]⟩
  obtain ⟨c0, c1, f0⟩ := HR.out.cells
  have hs1 : (1 : Int) ≤ (s.size : Int) := by omega
  obtain ⟨s1, hs1e⟩ : ∃ s1, s.extract 1 s.size = s1 := ⟨_, rfl⟩
  have hd1 : s1.data.toList = qL (lst t) ++ 34 :: tailL ⟨k, t, x⟩ := by
    rw [← hs1e, show 1 = ([34] : List UInt8).length from rfl, drop_at (a := [34]) (m := qL (lst t) ++ 34 :: tailL ⟨k, t, x⟩) h]
  have hl1 := Aside0.mk hd1
  have HS1 : Aside0 (s1.size ≤ 50000) := ⟨by rw [← hs1e, ByteArray.size_extract]; omega⟩
  have HA1 : Aside0 (wc.heap[w.heap.size + 1]? = some (.cells #[.int .i64 0, .string ⟨#[]⟩, .string ⟨#[]⟩] 24 (0, 0)) ∧ wc.heap[w.heap.size]? = some (.cells #[.int .i64 0, .string ⟨#[]⟩, .string ⟨#[]⟩] 24 (0, 0))) := ⟨by
    constructor
    · rw [hwc, ← hza]; exact heap_alloc_new _ _
    · have h1 : wa.heap[w.heap.size]? = some (.cells #[.int .i64 0, .string ⟨#[]⟩, .string ⟨#[]⟩] 24 (0, 0)) := by rw [hwa]; exact heap_alloc_new _ _
      exact (HC.out.block _ (blk_lt h1)).trans h1⟩
  have HZC : Aside0 (wc.heap.size = w.heap.size + 2) := ⟨by rw [hwc, ← Nat.add_assoc w.heap.size 1 1, ← hza]; simp⟩
  have HBC : Aside0 (Below w.heap.size w wc) := ⟨HA.out.trans (HC.out.mono (by omega))⟩
  have HOK := Aside0.mk hok
  have HSL := Aside0.mk hsl
  clear hR hwa hwc hsz h hd1 hok hsl
  go_enter Tryd.func25, Tryd.ntmps25
  go_upto_region 2 with (fail)
  rw [HHW.out]
  go_upto_region 10 with (go_at_call 52; first
    | ((with_reducible refine (C1.out _ HR.out).mono ?_); rintro e w2 ⟨rfl, rfl⟩)
    | ((with_reducible refine (C2.out _ HR.out).mono ?_); rintro e w2 ⟨rfl, rfl⟩)
    | ((with_reducible refine (C3.out _ HR.out).mono ?_); rintro e w2 ⟨rfl, rfl⟩))
  obtain ⟨wd, hwd⟩ : ∃ wd, wd = w2.setCell ⟨b, 0, none⟩ (.string s1) := ⟨_, rfl⟩
  have HRd : Aside0 (Rd wd b s1) := ⟨by rw [hwd]; exact HR.out.set s1⟩
  have HZd : Aside0 (wd.heap.size = w.heap.size + 2) := ⟨by rw [hwd, ← HZC.out]; simp [World.setCell]⟩
  have HAd : Aside0 (wd.heap[w.heap.size + 1]? = some (.cells #[.int .i64 0, .string ⟨#[]⟩, .string ⟨#[]⟩] 24 (0, 0)) ∧ wd.heap[w.heap.size]? = some (.cells #[.int .i64 0, .string ⟨#[]⟩, .string ⟨#[]⟩] 24 (0, 0))) := ⟨by
    rw [hwd]
    exact ⟨blk_far HA1.out.1 (by show w.heap.size + 1 ≠ b; omega) _, blk_far HA1.out.2 (by show w.heap.size ≠ b; omega) _⟩⟩
  have HKd : Aside0 (Kp w.heap.size b w wd) := ⟨by
    rw [hwd]
    exact Kp.set ⟨HBC.out.mono (by omega), fun i hi hn => HBC.out.block i hi⟩ _⟩
  rw [← hwd]
  have CL := Aside0.mk (literal_any ⟨k, t, x⟩ b s1 wd HRd.out hl1.out HS1.out HOK.out hk)
  simp only at CL
  clear hk
  clear hwd c0 c1 f0
  go_upto_region 11 with (go_at_call 55; (with_reducible refine CL.out.mono ?_); rintro e w3 ⟨rfl, hr, hk⟩; have HR3 := Aside0.mk hr; have HK3 := Aside0.mk hk; have hn1 := (hk.2 (w.heap.size + 1) (by rw [HZd.out]; omega) (by omega)).trans HAd.out.1; have g0 := blk_cell hn1 0; have g1 := blk_cell hn1 1; have g2 := blk_cell hn1 2; simp at g0 g1 g2; have e0 := blk_frozen hn1 0; have e1 := blk_frozen hn1 1; have e2 := blk_frozen hn1 2; have HN1 := Aside0.mk hn1; clear hn1 hr hk)
  clear g0 g1 g2 e0 e1 e2
  have hf := three_set HN1.out (.int .i64 k) (.string t) (.string x)
  have hKw : Kp w.heap.size b w w3 := HKd.out.trans ⟨HK3.out.1, fun i hi hn => HK3.out.2 i (by rw [HZd.out]; omega) hn⟩
  have HRf : Aside0 (Rd _ b ⟨#[]⟩) := ⟨((HR3.out.far (p := ⟨w.heap.size + 1, 0, none⟩) (by show b ≠ w.heap.size + 1; omega) (.int .i64 k)).far (p := ⟨w.heap.size + 1, 1, none⟩) (by show b ≠ w.heap.size + 1; omega) (.string t)).far (p := ⟨w.heap.size + 1, 2, none⟩) (by show b ≠ w.heap.size + 1; omega) (.string x)⟩
  have HKf : Aside0 (Kp w.heap.size b w _) := ⟨((hKw.far hbl (p := ⟨w.heap.size + 1, 0, none⟩) (by show w.heap.size ≤ w.heap.size + 1; omega) (.int .i64 k)).far hbl (p := ⟨w.heap.size + 1, 1, none⟩) (by show w.heap.size ≤ w.heap.size + 1; omega) (.string t)).far hbl (p := ⟨w.heap.size + 1, 2, none⟩) (by show w.heap.size ≤ w.heap.size + 1; omega) (.string x)⟩
  have hA0 := (HK3.out.2 w.heap.size (by rw [HZd.out]; omega) (by omega)).trans HAd.out.2
  have HA0 := Aside0.mk (blk_far (p := ⟨w.heap.size + 1, 2, none⟩) (blk_far (p := ⟨w.heap.size + 1, 1, none⟩) (blk_far (p := ⟨w.heap.size + 1, 0, none⟩) hA0 (by show w.heap.size ≠ w.heap.size + 1; omega) (.int .i64 k)) (by show w.heap.size ≠ w.heap.size + 1; omega) (.string t)) (by show w.heap.size ≠ w.heap.size + 1; omega) (.string x))
  generalize ((w3.setCell ⟨w.heap.size + 1, 0, none⟩ (.int .i64 k)).setCell ⟨w.heap.size + 1, 1, none⟩ (.string t)).setCell ⟨w.heap.size + 1, 2, none⟩ (.string x) = wf at hf HRf HKf HA0 ⊢
  have HTf := Aside0.mk (hT.below (hB.trans (HKf.out.1.mono hb)))
  have HF := Aside0.mk hf
  have q0 := blk_cell hf 0
  have q1 := blk_cell hf 1
  have q2 := blk_cell hf 2
  simp at q0 q1 q2
  obtain ⟨r0, r1, rf⟩ := HRf.out.cells
  have CI : Aside0 (∀ W, Tabs W → Calls Tryd.prog 14 #[.agg #[.int .i64 k, .string t, .string x]] W fun e w' => e = .returned (.bool true) ∧ Below W.heap.size W w') := ⟨fun W h => by
    have := refIs_any ⟨k, t, x⟩ W (by show (t : ByteArray).size ≤ 1000; have := HSL.out.1; omega) (by show (x : ByteArray).size ≤ 1000; have := HSL.out.2.1; omega) h
    rwa [HOK.out] at this⟩
  have HZf : Aside0 (w.heap.size ≤ wf.heap.size) := ⟨by have := blk_lt hf; omega⟩
  clear hf hA0 hKw
  go_upto_region 13 with (go_at_call 14; (with_reducible refine (CI.out _ HTf.out).mono ?_); rintro e w5 ⟨rfl, hb5⟩; have HR5 := Aside0.mk (HRf.out.below hb5); have HK5 := Aside0.mk (HKf.out.below HZf.out hb5 hbl); have HF5 := Aside0.mk ((hb5.block _ (blk_lt HF.out)).trans HF.out); have HA5 := Aside0.mk ((hb5.block _ (blk_lt HA0.out)).trans HA0.out); clear hb5)
  clear q0 q1 q2 r0 r1 rf
  have q0 := blk_cell HF5.out 0
  have q1 := blk_cell HF5.out 1
  have q2 := blk_cell HF5.out 2
  have n0 := blk_cell HA5.out 0
  have n1 := blk_cell HA5.out 1
  have n2 := blk_cell HA5.out 2
  simp at q0 q1 q2 n0 n1 n2
  have k0 := blk_frozen HA5.out 0
  have k1 := blk_frozen HA5.out 1
  have k2 := blk_frozen HA5.out 2
  have CB := Aside0.mk (blanks_none b w5 HR5.out)
  go_wp2_with (go_at_call 57; (with_reducible refine CB.out.mono ?_); rintro e w6 ⟨rfl, rfl⟩)
  have hf := three_set HA5.out (.int .i64 k) (.string t) (.string x)
  have HRf := Aside0.mk (((HR5.out.far (p := ⟨w.heap.size, 0, none⟩) (by show b ≠ w.heap.size; omega) (.int .i64 k)).far (p := ⟨w.heap.size, 1, none⟩) (by show b ≠ w.heap.size; omega) (.string t)).far (p := ⟨w.heap.size, 2, none⟩) (by show b ≠ w.heap.size; omega) (.string x))
  have HKf := Aside0.mk (((HK5.out.far hbl (p := ⟨w.heap.size, 0, none⟩) (Nat.le_refl _) (.int .i64 k)).far hbl (p := ⟨w.heap.size, 1, none⟩) (Nat.le_refl _) (.string t)).far hbl (p := ⟨w.heap.size, 2, none⟩) (Nat.le_refl _) (.string x))
  generalize ((w6.setCell ⟨w.heap.size, 0, none⟩ (.int .i64 k)).setCell ⟨w.heap.size, 1, none⟩ (.string t)).setCell ⟨w.heap.size, 2, none⟩ (.string x) = wz at hf HRf HKf ⊢
  have z0 := blk_cell hf 0
  have z1 := blk_cell hf 1
  have z2 := blk_cell hf 2
  simp at z0 z1 z2
  clear hf
  refine bodyPost_ret (by simp [results, Tryd.results25, go_sem, z0, z1, z2]; try rfl) rfl ?_
  exact ⟨rfl, HRf.out, HKf.out⟩
theorem term_any (a : Trm) (b : Nat) (w0 w : World) (hR : Rd w b (showS a)) (hok : isB a = true) (hT : Tabs w0) (hB : Below w0.heap.size w0 w) (hb : w0.heap.size ≤ b) :
    Calls Tryd.prog 25 #[.pointer (some ⟨b, 0, none⟩)] w fun e w' => e = .returned a.val ∧ Rd w' b ⟨#[]⟩ ∧ Kp w.heap.size b w w' := by
  obtain ⟨h1, h2, h3, h4, h5, h6⟩ := is_sizes hok
  have hs := show_size hok
  have hl : (showS a).data.toList = showL a := rfl
  obtain ⟨k, t, x⟩ := a
  unfold Trm.val
  simp only at h1 h2 h3 h4 h5 h6 ⊢
  have hk : k = 1 ∨ k = 2 ∨ (k = 3 ∨ k = 4 ∨ k = 5) := by omega
  rcases hk with rfl | rfl | hk
  · obtain rfl := empty_list (h4 (by omega))
    exact term_iri b _ t w0 w hR (by rw [hl]; simp [showL]) (by omega) hok hT hB hb
  · obtain rfl := empty_list (h4 (by omega))
    exact term_blank b _ t w0 w hR (by rw [hl]; simp [showL]) (by omega) hok hT hB hb
  · exact term_lit b _ k t x w0 w hR (by rw [hl, show_quote (a := ⟨k, t, x⟩) hk]; unfold quoteL; simp) (by omega) hok hk hT hB hb
end Go.Proofs.YtmenjcjpihpjjaaDoor.Tm
