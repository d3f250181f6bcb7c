/- The walks of the program's reader: step, seq, path. -/
import Derived.Test.YtbaegfjoionojaaDoorQyE
import Derived.WalkMore
set_option linter.unusedSimpArgs false
set_option linter.unusedVariables false
namespace Go.Proofs.YtbaegfjoionojaaDoor.Qy
open Go Go.RowKit Go.Proofs.YtbaegfjoionojaaDoor.Tm Go.Proofs.YtbaegfjoionojaaDoorW.PrintWords

/-- A path that is being read, in block Q; the result's block is still bare. -/
def LoopI (w wr : World) (b Q : Nat) (s : ByteArray) (G : Nat → Pth → Nat → Res Pth) (TOT : Res Pth) : Prop :=
  ∃ (k : Int) (t : ByteArray) (A : Option Addr) (n c : Nat) (B : Option Addr) (m d : Nat), wr.heap[Q]? = some (.cells #[.int .i64 k, .string t, .slice A n c, .slice B m d] 25 (0, 0)) ∧ wr.heap[w.heap.size]? = some (.cells #[.int .i64 0, .string ⟨#[]⟩, .slice none 0 0, .slice none 0 0] 25 (0, 0)) ∧ Kb b w wr ∧
    ((∃ f i p, Rq wr b s i 0 0 ∧ i ≤ s.size ∧ s.size - i < f ∧ PathAt wr (fun g => w.heap.size + 1 ≤ g ∧ g ≠ Q) p [.int .i64 k, .string t, .slice A n c, .slice B m d] ∧ G f p i = TOT) ∨ (∃ i er a, er ≠ 0 ∧ Rq wr b s i er a ∧ TOT = .no er a))
def signsR (s : ByteArray) (f : Nat) (p : Pth) (i : Nat) : Res Pth := .ok (signsS s f p i).1 (signsS s f p i).2
theorem signs_on {s : ByteArray} {f : Nat} {p : Pth} {i : Nat} {k : Int} (h : signK (nx s i) = some k) : signsR s (f + 1) p i = signsR s f (.mk k ⟨#[]⟩ [] [p]) (skip s i + 1) := by
  unfold signsR
  rw [show signsS s (f + 1) p i = signsS s f (.mk k ⟨#[]⟩ [] [p]) (skip s i + 1) by
    conv => lhs; unfold signsS
    rw [h]]
theorem signs_end {s : ByteArray} {f : Nat} {p : Pth} {i : Nat} (h : signK (nx s i) = none) : signsR s (f + 1) p i = .ok p (skip s i) := by
  unfold signsR
  rw [show signsS s (f + 1) p i = (p, skip s i) by
    conv => lhs; unfold signsS
    rw [h]]
def chainR (s : ByteArray) (c : Nat) (kind : Int) (F : Nat → Res Pth) (f : Nat) (p : Pth) (r : Res Pth) : Res Pth := match r with
  | .ok q j => chainS s c kind F f (.mk kind ⟨#[]⟩ [] [p, q]) j
  | .no e a => .no e a
theorem chain_on {s : ByteArray} {c : Nat} {kind : Int} {F : Nat → Res Pth} {f : Nat} {p : Pth} {i : Nat} (h : nx s i = c) : chainS s c kind F (f + 1) p i = chainR s c kind F f p (F (skip s i + 1)) := by
  unfold chainR
  conv => lhs; unfold chainS
  rw [if_pos h]
  cases F (skip s i + 1) <;> rfl
theorem chain_end {s : ByteArray} {c : Nat} {kind : Int} {F : Nat → Res Pth} {f : Nat} {p : Pth} {i : Nat} (h : nx s i ≠ c) : chainS s c kind F (f + 1) p i = .ok p (skip s i) := by
  conv => lhs; unfold chainS
  rw [if_neg h]
def thenR (G : Pth → Nat → Res Pth) (r : Res Pth) : Res Pth := match r with
  | .ok p j => G p j
  | .no e a => .no e a
set_option maxRecDepth 100000 in
set_option maxHeartbeats 8000000 in
theorem step_any (b : Nat) (s : ByteArray) (i d : Nat) (w0 w : World) (hR : Rq w b s i 0 0) (hs : s.size ≤ 50000) (hi : i ≤ s.size) (hT : Tabs w0) (hB : Below w0.heap.size w0 w) (hb : w0.heap.size ≤ b) (F : Nat → Res Pth) (hF : ParseC 138 b s w0 d F) (hAdv : ∀ i, Adv s i (F i)) :
    Calls Tryd.prog 115 #[.pointer (some ⟨b, 0, none⟩), .int .i64 (d : Int)] w (PostP b s w (thenR (signsR s (s.size + 1)) (F i))) := by
  have hbl := blk_lt hR
  have hs3 : (s.size : Int) ≤ 50000 := by omega
  obtain ⟨wa, hwa, HKa, HBa, HNa, HZa⟩ := res4 w hbl
  have HRa : Aside0 (Rq wa b s i 0 0) := ⟨hR.below HBa.out⟩
  have HHW : Aside0 (w.alloc (.cells #[.int .i64 0, .string ⟨#[]⟩, .slice none 0 0, .slice none 0 0] 25) = wa) := ⟨hwa.symm⟩
  have HBa := Aside0.mk (hB.trans (HKa.out.1.mono hb))
  have CB := Aside0.mk (hF i wa HBa.out HRa.out hi)
  obtain ⟨r, hr⟩ : ∃ r, F i = r := ⟨_, rfl⟩
  have HAdv := Aside0.mk (hr ▸ hAdv i)
  rw [hr] at CB ⊢
  obtain ⟨TOT, hTOT⟩ : ∃ T, thenR (signsR s (s.size + 1)) r = T := ⟨_, rfl⟩
  rw [hTOT]
  have HTOT := Aside0.mk hTOT
  clear hR hwa hF hAdv hr hTOT
  go_enter Tryd.func115, Tryd.ntmps115
  go_wp2_with fail
  go_step3
  go_upto_region 1 with (fail)
  rw [HHW.out]
  go_wp2_with (go_at_call 138; (with_reducible refine CB.out.mono ?_); rintro e w2 ⟨k', t', A', n', c', B', m', d', rfl, hk, hok, hno⟩; have HK2 := Aside0.mk (HKa.out.trans hk); have HOK2 := Aside0.mk hok; have HNO2 := Aside0.mk hno; have HP2 := Aside0.mk (hk.blk HNa.out (by omega)); have hlt2 := blk_lt HP2.out; clear hk hok hno)
  obtain ⟨w3, hw3, HB3⟩ : ∃ w3, w3 = w2.alloc (.cells #[.int .i64 k', .string t', .slice A' n' c', .slice B' m' d'] 25) ∧ Aside0 (Below w2.heap.size w2 w3) := ⟨_, rfl, ⟨below_alloc (Below.refl _ _) _⟩⟩
  rw [← hw3]
  have HQ3 : Aside0 (w3.heap[w2.heap.size]? = some (.cells #[.int .i64 k', .string t', .slice A' n' c', .slice B' m' d'] 25 (0, 0))) := ⟨by rw [hw3]; exact heap_alloc_new _ _⟩
  have HP3 := Aside0.mk (blk_below HP2.out HB3.out)
  have HK3 := Aside0.mk (HK2.out.trans (Kb.of HB3.out (by omega)))
  obtain ⟨Q, hQ⟩ : ∃ Q, w2.heap.size = Q := ⟨_, rfl⟩
  have HQ := Aside0.mk hQ
  rw [hQ] at HQ3 hlt2
  rw [hQ]
  have HI : Aside0 (LoopI w w3 b Q s (signsR s) TOT) := ⟨by
    refine ⟨_, _, _, _, _, _, _, _, HQ3.out, HP3.out, HK3.out, ?_⟩
    have hT := HTOT.out
    cases r with
    | ok p j =>
      obtain ⟨hr3, hp3⟩ := HOK2.out p j rfl
      have ha := HAdv.out p j rfl
      exact .inl ⟨s.size + 1, j, p, hr3.below HB3.out, ha.2, by omega, PathAt.below (PathAt.mono (fun g hg hl => ⟨by have := HZa.out; omega, by have := HQ.out; omega⟩) _ hp3) HB3.out, hT⟩
    | no er a =>
      obtain ⟨he, i3, hr3⟩ := HNO2.out er a rfl
      exact .inr ⟨i3, er, a, he, hr3.below HB3.out, hT.symm⟩⟩
  have hQ0 : w.heap.size + 1 ≤ Q := by omega
  clear hw3 hQ HQ HTOT HAdv HOK2 HNO2 HQ3 HP3 HK3 HB3 HP2 HK2 CB HNa HKa HBa HRa HHW HZa hlt2
  go_step3
  go_wp2_with fail
  go_loopw [11] (fun x wr => Aside0 (LoopI w wr b Q s (signsR s) TOT)) (fun x wr => mOf wr b s.size)
  case atStart => exact HI
  case round =>
    clear HI
    obtain ⟨wv, rfl⟩ : ∃ x, x = wr := ⟨wr, rfl⟩
    obtain ⟨k, t, A, n, c, B, m, d1, hQ, hP, hK, hcase⟩ := hrel.out
    have HQv := Aside0.mk hQ
    have HPv := Aside0.mk hP
    have HK := Aside0.mk hK
    have hwz := hK.size
    have hQz := blk_lt hQ
    clear hQ hP hK hrel
    rcases hcase with ⟨f, j, p, hR, hj, hf, hp, hT'⟩ | ⟨j, er, a, he, hR, hT'⟩
    · obtain ⟨f, rfl⟩ : ∃ g, f = g + 1 := ⟨f - 1, by omega⟩
      have HM := Aside0.mk (mOf_ok hR)
      have HPA := Aside0.mk hp
      have CN := Aside0.mk (next_ok b s j 0 wv hR hs hj)
      clear hp
      by_cases h42 : nx s j = 42
      · rw [signs_on (k := 5) (by rw [h42]; rfl)] at hT'
        have HT' := Aside0.mk hT'
        have hsk := nx_in (s := s) (i := j) (by rw [h42]; decide)
        have hge := skip_ge s j
        rw [h42] at CN
        obtain ⟨J, hJ⟩ : ∃ J, skip s j = J := ⟨_, rfl⟩
        rw [hJ] at CN hsk hge HT'
        have g1 : (J : Int) < (s.size : Int) := by omega
        clear hT' hR h42 hJ
        go_upto_region 11 with (go_at_call 56; (with_reducible refine CN.out.mono ?_); rintro e w2 ⟨rfl, hr, hk⟩; have HR2 := Aside0.mk hr; have HK2 := Aside0.mk (HK.out.trans hk); have HKn := Aside0.mk hk; have HPw := Aside0.mk (hk.blk HPv.out (by omega)); have HQw := Aside0.mk (hk.blk HQv.out (by omega)); have hz2 := hk.size; obtain ⟨c0, c1, c2, c3, f1, f2, f3⟩ := hr.cells; have q0 := blk_cell HPw.out 0; have q1 := blk_cell HPw.out 1; have q2 := blk_cell HPw.out 2; have q3 := blk_cell HPw.out 3; simp at q0 q1 q2 q3; have k0 := blk_frozen HPw.out 0; have k1 := blk_frozen HPw.out 1; have k2 := blk_frozen HPw.out 2; have k3 := blk_frozen HPw.out 3; have m0 := blk_cell HQw.out 0; have m1 := blk_cell HQw.out 1; have m2 := blk_cell HQw.out 2; have m3 := blk_cell HQw.out 3; simp at m0 m1 m2 m3; have l0 := blk_frozen HQw.out 0; have l1 := blk_frozen HQw.out 1; have l2 := blk_frozen HQw.out 2; have l3 := blk_frozen HQw.out 3; clear hr hk)
        obtain ⟨we, hwe⟩ : ∃ we, we = w2.setCell ⟨b, 1, none⟩ (.int .i64 ((J : Int) + 1)) := ⟨_, rfl⟩
        rw [← hwe]
        have HRe : Aside0 (Rq we b s (J + 1) 0 0) := ⟨by rw [hwe]; exact Rq.to HR2.out (J + 1) _ (by simp)⟩
        have HKs : Aside0 (Kb b wv we) := ⟨by rw [hwe]; exact HKn.out.trans (Kb.set _ _ _)⟩
        have HKe := Aside0.mk (HK.out.trans HKs.out)
        have HPe := Aside0.mk (HKs.out.blk HPv.out (by omega))
        have HQe := Aside0.mk (HKs.out.blk HQv.out (by omega))
        have HPAe := Aside0.mk (HKs.out.path (fun g hg => by omega) HPA.out)
        clear hwe c0 c1 c2 c3 f1 f2 f3 q0 q1 q2 q3 k0 k1 k2 k3 m0 m1 m2 m3 l0 l1 l2 l3
        have hlt := blk_lt HQe.out
        have hz4 : ¬ (Q = we.heap.size) := by omega
        have hz5 : ¬ (we.heap.size = Q) := by omega
        have q0 := blk_cell HQe.out 0; have q1 := blk_cell HQe.out 1; have q2 := blk_cell HQe.out 2; have q3 := blk_cell HQe.out 3; simp at q0 q1 q2 q3; have k0 := blk_frozen HQe.out 0; have k1 := blk_frozen HQe.out 1; have k2 := blk_frozen HQe.out 2; have k3 := blk_frozen HQe.out 3
        go_wp2_with fail
        obtain ⟨wf, hwf, HRf, HKf, HNf, HPf, HGf, HSf⟩ := fin4 HRe.out HKe.out hbl (show w.heap.size ≤ Q by omega) HQe.out (.int .i64 5) (.string ⟨#[]⟩) (.slice none 0 0) (.slice (some ⟨we.heap.size, 0, none⟩) 1 1)
        rw [← hwf]
        obtain ⟨wg, hwg, HBg⟩ : ∃ wg, wg = wf.alloc (.cells #[.int .i64 k, .string t, .slice A n c, .slice B m d1] 25) ∧ Aside0 (Below wf.heap.size wf wg) := ⟨_, rfl, ⟨below_alloc (Below.refl _ _) _⟩⟩
        rw [← hwg]
        have HQg : Aside0 (wg.heap[we.heap.size]? = some (.cells #[.int .i64 k, .string t, .slice A n c, .slice B m d1] 25 (0, 0))) := ⟨by rw [hwg, ← HSf.out]; exact heap_alloc_new _ _⟩
        have HI : Aside0 (LoopI w wg b Q s (signsR s) TOT ∧ mOf wg b s.size < mOf wv b s.size) := ⟨by
          rw [HM.out]
          have hr6 := HRf.out.below HBg.out
          refine ⟨⟨_, _, _, _, _, _, _, _, blk_below HNf.out HBg.out, blk_below (HGf.out _ _ (by omega) HPe.out) HBg.out, HKf.out.trans (Kb.of HBg.out (by have := HSf.out; omega)), .inl ⟨f, J + 1, _, hr6, by omega, by omega, path_one ((HPf.out _ _ _ (fun g hg => hg.2) HPAe.out).below HBg.out) ⟨by omega, by omega⟩ HQg.out, HT'.out⟩⟩, ?_⟩
          rw [mOf_ok hr6]; omega⟩
        clear hwf hwg
        go_roundw
        case rel => exact ⟨HI.out.1⟩
        case measure => exact HI.out.2
      by_cases h43 : nx s j = 43
      · rw [signs_on (k := 6) (by rw [h43]; rfl)] at hT'
        have HT' := Aside0.mk hT'
        have hsk := nx_in (s := s) (i := j) (by rw [h43]; decide)
        have hge := skip_ge s j
        rw [h43] at CN
        obtain ⟨J, hJ⟩ : ∃ J, skip s j = J := ⟨_, rfl⟩
        rw [hJ] at CN hsk hge HT'
        have g1 : (J : Int) < (s.size : Int) := by omega
        clear hT' hR h43 hJ
        go_upto_region 11 with (go_at_call 56; (with_reducible refine CN.out.mono ?_); rintro e w2 ⟨rfl, hr, hk⟩; have HR2 := Aside0.mk hr; have HK2 := Aside0.mk (HK.out.trans hk); have HKn := Aside0.mk hk; have HPw := Aside0.mk (hk.blk HPv.out (by omega)); have HQw := Aside0.mk (hk.blk HQv.out (by omega)); have hz2 := hk.size; obtain ⟨c0, c1, c2, c3, f1, f2, f3⟩ := hr.cells; have q0 := blk_cell HPw.out 0; have q1 := blk_cell HPw.out 1; have q2 := blk_cell HPw.out 2; have q3 := blk_cell HPw.out 3; simp at q0 q1 q2 q3; have k0 := blk_frozen HPw.out 0; have k1 := blk_frozen HPw.out 1; have k2 := blk_frozen HPw.out 2; have k3 := blk_frozen HPw.out 3; have m0 := blk_cell HQw.out 0; have m1 := blk_cell HQw.out 1; have m2 := blk_cell HQw.out 2; have m3 := blk_cell HQw.out 3; simp at m0 m1 m2 m3; have l0 := blk_frozen HQw.out 0; have l1 := blk_frozen HQw.out 1; have l2 := blk_frozen HQw.out 2; have l3 := blk_frozen HQw.out 3; clear hr hk)
        obtain ⟨we, hwe⟩ : ∃ we, we = w2.setCell ⟨b, 1, none⟩ (.int .i64 ((J : Int) + 1)) := ⟨_, rfl⟩
        rw [← hwe]
        have HRe : Aside0 (Rq we b s (J + 1) 0 0) := ⟨by rw [hwe]; exact Rq.to HR2.out (J + 1) _ (by simp)⟩
        have HKs : Aside0 (Kb b wv we) := ⟨by rw [hwe]; exact HKn.out.trans (Kb.set _ _ _)⟩
        have HKe := Aside0.mk (HK.out.trans HKs.out)
        have HPe := Aside0.mk (HKs.out.blk HPv.out (by omega))
        have HQe := Aside0.mk (HKs.out.blk HQv.out (by omega))
        have HPAe := Aside0.mk (HKs.out.path (fun g hg => by omega) HPA.out)
        clear hwe c0 c1 c2 c3 f1 f2 f3 q0 q1 q2 q3 k0 k1 k2 k3 m0 m1 m2 m3 l0 l1 l2 l3
        have hlt := blk_lt HQe.out
        have hz4 : ¬ (Q = we.heap.size) := by omega
        have hz5 : ¬ (we.heap.size = Q) := by omega
        have q0 := blk_cell HQe.out 0; have q1 := blk_cell HQe.out 1; have q2 := blk_cell HQe.out 2; have q3 := blk_cell HQe.out 3; simp at q0 q1 q2 q3; have k0 := blk_frozen HQe.out 0; have k1 := blk_frozen HQe.out 1; have k2 := blk_frozen HQe.out 2; have k3 := blk_frozen HQe.out 3
        go_wp2_with fail
        obtain ⟨wf, hwf, HRf, HKf, HNf, HPf, HGf, HSf⟩ := fin4 HRe.out HKe.out hbl (show w.heap.size ≤ Q by omega) HQe.out (.int .i64 6) (.string ⟨#[]⟩) (.slice none 0 0) (.slice (some ⟨we.heap.size, 0, none⟩) 1 1)
        rw [← hwf]
        obtain ⟨wg, hwg, HBg⟩ : ∃ wg, wg = wf.alloc (.cells #[.int .i64 k, .string t, .slice A n c, .slice B m d1] 25) ∧ Aside0 (Below wf.heap.size wf wg) := ⟨_, rfl, ⟨below_alloc (Below.refl _ _) _⟩⟩
        rw [← hwg]
        have HQg : Aside0 (wg.heap[we.heap.size]? = some (.cells #[.int .i64 k, .string t, .slice A n c, .slice B m d1] 25 (0, 0))) := ⟨by rw [hwg, ← HSf.out]; exact heap_alloc_new _ _⟩
        have HI : Aside0 (LoopI w wg b Q s (signsR s) TOT ∧ mOf wg b s.size < mOf wv b s.size) := ⟨by
          rw [HM.out]
          have hr6 := HRf.out.below HBg.out
          refine ⟨⟨_, _, _, _, _, _, _, _, blk_below HNf.out HBg.out, blk_below (HGf.out _ _ (by omega) HPe.out) HBg.out, HKf.out.trans (Kb.of HBg.out (by have := HSf.out; omega)), .inl ⟨f, J + 1, _, hr6, by omega, by omega, path_one ((HPf.out _ _ _ (fun g hg => hg.2) HPAe.out).below HBg.out) ⟨by omega, by omega⟩ HQg.out, HT'.out⟩⟩, ?_⟩
          rw [mOf_ok hr6]; omega⟩
        clear hwf hwg
        go_roundw
        case rel => exact ⟨HI.out.1⟩
        case measure => exact HI.out.2
      by_cases h63 : nx s j = 63
      · rw [signs_on (k := 7) (by rw [h63]; rfl)] at hT'
        have HT' := Aside0.mk hT'
        have hsk := nx_in (s := s) (i := j) (by rw [h63]; decide)
        have hge := skip_ge s j
        rw [h63] at CN
        obtain ⟨J, hJ⟩ : ∃ J, skip s j = J := ⟨_, rfl⟩
        rw [hJ] at CN hsk hge HT'
        have g1 : (J : Int) < (s.size : Int) := by omega
        clear hT' hR h63 hJ
        go_upto_region 11 with (go_at_call 56; (with_reducible refine CN.out.mono ?_); rintro e w2 ⟨rfl, hr, hk⟩; have HR2 := Aside0.mk hr; have HK2 := Aside0.mk (HK.out.trans hk); have HKn := Aside0.mk hk; have HPw := Aside0.mk (hk.blk HPv.out (by omega)); have HQw := Aside0.mk (hk.blk HQv.out (by omega)); have hz2 := hk.size; obtain ⟨c0, c1, c2, c3, f1, f2, f3⟩ := hr.cells; have q0 := blk_cell HPw.out 0; have q1 := blk_cell HPw.out 1; have q2 := blk_cell HPw.out 2; have q3 := blk_cell HPw.out 3; simp at q0 q1 q2 q3; have k0 := blk_frozen HPw.out 0; have k1 := blk_frozen HPw.out 1; have k2 := blk_frozen HPw.out 2; have k3 := blk_frozen HPw.out 3; have m0 := blk_cell HQw.out 0; have m1 := blk_cell HQw.out 1; have m2 := blk_cell HQw.out 2; have m3 := blk_cell HQw.out 3; simp at m0 m1 m2 m3; have l0 := blk_frozen HQw.out 0; have l1 := blk_frozen HQw.out 1; have l2 := blk_frozen HQw.out 2; have l3 := blk_frozen HQw.out 3; clear hr hk)
        obtain ⟨we, hwe⟩ : ∃ we, we = w2.setCell ⟨b, 1, none⟩ (.int .i64 ((J : Int) + 1)) := ⟨_, rfl⟩
        rw [← hwe]
        have HRe : Aside0 (Rq we b s (J + 1) 0 0) := ⟨by rw [hwe]; exact Rq.to HR2.out (J + 1) _ (by simp)⟩
        have HKs : Aside0 (Kb b wv we) := ⟨by rw [hwe]; exact HKn.out.trans (Kb.set _ _ _)⟩
        have HKe := Aside0.mk (HK.out.trans HKs.out)
        have HPe := Aside0.mk (HKs.out.blk HPv.out (by omega))
        have HQe := Aside0.mk (HKs.out.blk HQv.out (by omega))
        have HPAe := Aside0.mk (HKs.out.path (fun g hg => by omega) HPA.out)
        clear hwe c0 c1 c2 c3 f1 f2 f3 q0 q1 q2 q3 k0 k1 k2 k3 m0 m1 m2 m3 l0 l1 l2 l3
        have hlt := blk_lt HQe.out
        have hz4 : ¬ (Q = we.heap.size) := by omega
        have hz5 : ¬ (we.heap.size = Q) := by omega
        have q0 := blk_cell HQe.out 0; have q1 := blk_cell HQe.out 1; have q2 := blk_cell HQe.out 2; have q3 := blk_cell HQe.out 3; simp at q0 q1 q2 q3; have k0 := blk_frozen HQe.out 0; have k1 := blk_frozen HQe.out 1; have k2 := blk_frozen HQe.out 2; have k3 := blk_frozen HQe.out 3
        go_wp2_with fail
        obtain ⟨wf, hwf, HRf, HKf, HNf, HPf, HGf, HSf⟩ := fin4 HRe.out HKe.out hbl (show w.heap.size ≤ Q by omega) HQe.out (.int .i64 7) (.string ⟨#[]⟩) (.slice none 0 0) (.slice (some ⟨we.heap.size, 0, none⟩) 1 1)
        rw [← hwf]
        obtain ⟨wg, hwg, HBg⟩ : ∃ wg, wg = wf.alloc (.cells #[.int .i64 k, .string t, .slice A n c, .slice B m d1] 25) ∧ Aside0 (Below wf.heap.size wf wg) := ⟨_, rfl, ⟨below_alloc (Below.refl _ _) _⟩⟩
        rw [← hwg]
        have HQg : Aside0 (wg.heap[we.heap.size]? = some (.cells #[.int .i64 k, .string t, .slice A n c, .slice B m d1] 25 (0, 0))) := ⟨by rw [hwg, ← HSf.out]; exact heap_alloc_new _ _⟩
        have HI : Aside0 (LoopI w wg b Q s (signsR s) TOT ∧ mOf wg b s.size < mOf wv b s.size) := ⟨by
          rw [HM.out]
          have hr6 := HRf.out.below HBg.out
          refine ⟨⟨_, _, _, _, _, _, _, _, blk_below HNf.out HBg.out, blk_below (HGf.out _ _ (by omega) HPe.out) HBg.out, HKf.out.trans (Kb.of HBg.out (by have := HSf.out; omega)), .inl ⟨f, J + 1, _, hr6, by omega, by omega, path_one ((HPf.out _ _ _ (fun g hg => hg.2) HPAe.out).below HBg.out) ⟨by omega, by omega⟩ HQg.out, HT'.out⟩⟩, ?_⟩
          rw [mOf_ok hr6]; omega⟩
        clear hwf hwg
        go_roundw
        case rel => exact ⟨HI.out.1⟩
        case measure => exact HI.out.2
      have hk0 : signK (nx s j) = none := by unfold signK; rw [if_neg h42, if_neg h43, if_neg h63]
      rw [signs_end hk0] at hT'
      have HT' := Aside0.mk hT'
      obtain ⟨x, hx⟩ : ∃ x, nx s j = x := ⟨_, rfl⟩
      rw [hx] at CN h42 h43 h63
      have n1 : ((x : Int) == 42) = false := by rw [beq_eq_false_iff_ne]; omega
      have n2 : ((x : Int) == 43) = false := by rw [beq_eq_false_iff_ne]; omega
      have n3 : ((x : Int) == 63) = false := by rw [beq_eq_false_iff_ne]; omega
      clear hT' hR hk0 hx h42 h43 h63
      go_wp2_with (go_at_call 56; (with_reducible refine CN.out.mono ?_); rintro e w2 ⟨rfl, hr, hk⟩; have HR2 := Aside0.mk hr; have HK2 := Aside0.mk (HK.out.trans hk); have HKn := Aside0.mk hk; have HPw := Aside0.mk (hk.blk HPv.out (by omega)); have HQw := Aside0.mk (hk.blk HQv.out (by omega)); have hz2 := hk.size; obtain ⟨c0, c1, c2, c3, f1, f2, f3⟩ := hr.cells; have q0 := blk_cell HPw.out 0; have q1 := blk_cell HPw.out 1; have q2 := blk_cell HPw.out 2; have q3 := blk_cell HPw.out 3; simp at q0 q1 q2 q3; have k0 := blk_frozen HPw.out 0; have k1 := blk_frozen HPw.out 1; have k2 := blk_frozen HPw.out 2; have k3 := blk_frozen HPw.out 3; have m0 := blk_cell HQw.out 0; have m1 := blk_cell HQw.out 1; have m2 := blk_cell HQw.out 2; have m3 := blk_cell HQw.out 3; simp at m0 m1 m2 m3; have l0 := blk_frozen HQw.out 0; have l1 := blk_frozen HQw.out 1; have l2 := blk_frozen HQw.out 2; have l3 := blk_frozen HQw.out 3; clear hr hk)
      obtain ⟨wf, hwf, HRf, HKf, HNf, HPf, HGf, HSf⟩ := fin4 HR2.out HK2.out hbl (Nat.le_refl _) HPw.out (.int .i64 k) (.string t) ((.slice A n c)) ((.slice B m d1))
      rw [← hwf]
      have z0 := blk_cell HNf.out 0
      have z1 := blk_cell HNf.out 1
      have z2 := blk_cell HNf.out 2
      have z3 := blk_cell HNf.out 3
      simp at z0 z1 z2 z3
      clear hwf
      try rw [Exit.noGoto_ret]
      refine bodyPost_ret (by simp [results, Tryd.results115, go_sem, z0, z1, z2, z3]; try rfl) rfl ?_
      rw [← HT'.out]
      exact PostP.ok HKf.out HRf.out (PathAt.mono (fun g hg _ => by omega) _ (HPf.out _ _ _ (fun g hg => by omega) (HKn.out.path (fun g hg => by omega) HPA.out)))
    · have CN := Aside0.mk (next_err b s j a er wv hR he)
      have HT' := Aside0.mk hT'
      clear hT' hR
      go_wp2_with (go_at_call 56; (with_reducible refine CN.out.mono ?_); rintro e w2 ⟨rfl, hr, hk⟩; have HR2 := Aside0.mk hr; have HK2 := Aside0.mk (HK.out.trans hk); have HKn := Aside0.mk hk; have HPw := Aside0.mk (hk.blk HPv.out (by omega)); have HQw := Aside0.mk (hk.blk HQv.out (by omega)); have hz2 := hk.size; obtain ⟨c0, c1, c2, c3, f1, f2, f3⟩ := hr.cells; have q0 := blk_cell HPw.out 0; have q1 := blk_cell HPw.out 1; have q2 := blk_cell HPw.out 2; have q3 := blk_cell HPw.out 3; simp at q0 q1 q2 q3; have k0 := blk_frozen HPw.out 0; have k1 := blk_frozen HPw.out 1; have k2 := blk_frozen HPw.out 2; have k3 := blk_frozen HPw.out 3; have m0 := blk_cell HQw.out 0; have m1 := blk_cell HQw.out 1; have m2 := blk_cell HQw.out 2; have m3 := blk_cell HQw.out 3; simp at m0 m1 m2 m3; have l0 := blk_frozen HQw.out 0; have l1 := blk_frozen HQw.out 1; have l2 := blk_frozen HQw.out 2; have l3 := blk_frozen HQw.out 3; clear hr hk)
      obtain ⟨wf, hwf, HRf, HKf, HNf, HPf, HGf, HSf⟩ := fin4 HR2.out HK2.out hbl (Nat.le_refl _) HPw.out (.int .i64 k) (.string t) ((.slice A n c)) ((.slice B m d1))
      rw [← hwf]
      have z0 := blk_cell HNf.out 0
      have z1 := blk_cell HNf.out 1
      have z2 := blk_cell HNf.out 2
      have z3 := blk_cell HNf.out 3
      simp at z0 z1 z2 z3
      clear hwf
      try rw [Exit.noGoto_ret]
      refine bodyPost_ret (by simp [results, Tryd.results115, go_sem, z0, z1, z2, z3]; try rfl) rfl ?_
      rw [HT'.out]
      exact PostP.no HKf.out he HRf.out
set_option maxRecDepth 100000 in
set_option maxHeartbeats 8000000 in
theorem seq_any (b : Nat) (s : ByteArray) (i d : Nat) (w0 w : World) (hR : Rq w b s i 0 0) (hs : s.size ≤ 50000) (hi : i ≤ s.size) (hT : Tabs w0) (hB : Below w0.heap.size w0 w) (hb : w0.heap.size ≤ b) (F : Nat → Res Pth) (hF : ParseC 115 b s w0 d F) (hAdv : ∀ i, Adv s i (F i)) :
    Calls Tryd.prog 89 #[.pointer (some ⟨b, 0, none⟩), .int .i64 (d : Int)] w (PostP b s w (thenR (chainS s 47 3 F (s.size + 1)) (F i))) := by
  have hbl := blk_lt hR
  have hs3 : (s.size : Int) ≤ 50000 := by omega
  obtain ⟨wa, hwa, HKa, HBa, HNa, HZa⟩ := res4 w hbl
  have HRa : Aside0 (Rq wa b s i 0 0) := ⟨hR.below HBa.out⟩
  have HHW : Aside0 (w.alloc (.cells #[.int .i64 0, .string ⟨#[]⟩, .slice none 0 0, .slice none 0 0] 25) = wa) := ⟨hwa.symm⟩
  have HBa := Aside0.mk (hB.trans (HKa.out.1.mono hb))
  have CB := Aside0.mk (hF i wa HBa.out HRa.out hi)
  obtain ⟨r, hr⟩ : ∃ r, F i = r := ⟨_, rfl⟩
  have HAdv := Aside0.mk (hr ▸ hAdv i)
  rw [hr] at CB ⊢
  obtain ⟨TOT, hTOT⟩ : ∃ T, thenR (chainS s 47 3 F (s.size + 1)) r = T := ⟨_, rfl⟩
  rw [hTOT]
  have HTOT := Aside0.mk hTOT
  have HAF := Aside0.mk hAdv
  have HFF := Aside0.mk hF
  clear hR hwa hF hAdv hr hTOT
  go_enter Tryd.func89, Tryd.ntmps89
  go_upto_region 1 with (fail)
  rw [HHW.out]
  go_wp2_with (go_at_call 115; (with_reducible refine CB.out.mono ?_); rintro e w2 ⟨k', t', A', n', c', B', m', d', rfl, hk, hok, hno⟩; have HK2 := Aside0.mk (HKa.out.trans hk); have HOK2 := Aside0.mk hok; have HNO2 := Aside0.mk hno; have HP2 := Aside0.mk (hk.blk HNa.out (by omega)); have hlt2 := blk_lt HP2.out; clear hk hok hno)
  obtain ⟨w3, hw3, HB3⟩ : ∃ w3, w3 = w2.alloc (.cells #[.int .i64 k', .string t', .slice A' n' c', .slice B' m' d'] 25) ∧ Aside0 (Below w2.heap.size w2 w3) := ⟨_, rfl, ⟨below_alloc (Below.refl _ _) _⟩⟩
  rw [← hw3]
  have HQ3 : Aside0 (w3.heap[w2.heap.size]? = some (.cells #[.int .i64 k', .string t', .slice A' n' c', .slice B' m' d'] 25 (0, 0))) := ⟨by rw [hw3]; exact heap_alloc_new _ _⟩
  have HP3 := Aside0.mk (blk_below HP2.out HB3.out)
  have HK3 := Aside0.mk (HK2.out.trans (Kb.of HB3.out (by omega)))
  obtain ⟨Q, hQ⟩ : ∃ Q, w2.heap.size = Q := ⟨_, rfl⟩
  have HQ := Aside0.mk hQ
  rw [hQ] at HQ3 hlt2
  rw [hQ]
  have HI : Aside0 (LoopI w w3 b Q s (chainS s 47 3 F) TOT) := ⟨by
    refine ⟨_, _, _, _, _, _, _, _, HQ3.out, HP3.out, HK3.out, ?_⟩
    have hT := HTOT.out
    cases r with
    | ok p j =>
      obtain ⟨hr3, hp3⟩ := HOK2.out p j rfl
      have ha := HAdv.out p j rfl
      exact .inl ⟨s.size + 1, j, p, hr3.below HB3.out, ha.2, by omega, PathAt.below (PathAt.mono (fun g hg hl => ⟨by have := HZa.out; omega, by have := HQ.out; omega⟩) _ hp3) HB3.out, hT⟩
    | no er a =>
      obtain ⟨he, i3, hr3⟩ := HNO2.out er a rfl
      exact .inr ⟨i3, er, a, he, hr3.below HB3.out, hT.symm⟩⟩
  have hQ0 : w.heap.size + 1 ≤ Q := by omega
  clear hw3 hQ HQ HTOT HAdv HOK2 HNO2 HQ3 HP3 HK3 HB3 HP2 HK2 CB HNa HKa HBa HRa HHW HZa hlt2
  go_loopw [10] (fun x wr => Aside0 (LoopI w wr b Q s (chainS s 47 3 F) TOT)) (fun x wr => mOf wr b s.size)
  case atStart => exact HI
  case round =>
    clear HI
    obtain ⟨wv, rfl⟩ : ∃ x, x = wr := ⟨wr, rfl⟩
    obtain ⟨k, t, A, n, c, B, m, d1, hQ, hP, hK, hcase⟩ := hrel.out
    have HQv := Aside0.mk hQ
    have HPv := Aside0.mk hP
    have HK := Aside0.mk hK
    have hwz := hK.size
    have hQz := blk_lt hQ
    clear hQ hP hK hrel
    rcases hcase with ⟨f, j, p, hR, hj, hf, hp, hT'⟩ | ⟨j, er, a, he, hR, hT'⟩
    · obtain ⟨f, rfl⟩ : ∃ g, f = g + 1 := ⟨f - 1, by omega⟩
      have HM := Aside0.mk (mOf_ok hR)
      have HPA := Aside0.mk hp
      clear hp
      by_cases hsg : nx s j = 47
      · rw [chain_on hsg] at hT'
        have HT' := Aside0.mk hT'
        have hsk := nx_adv (s := s) (i := j) (by omega)
        have CN := Aside0.mk (is_yes b s j 0 47 0 wv hR hs hj hsg (by decide))
        simp only [Int.cast_ofNat_Int] at CN
        obtain ⟨J, hJ⟩ : ∃ J, skip s j + 1 = J := ⟨_, rfl⟩
        rw [hJ] at CN hsk HT'
        obtain ⟨r, hr⟩ : ∃ r, F J = r := ⟨_, rfl⟩
        have HAdv := Aside0.mk (hr ▸ HAF.out J)
        have CI : Aside0 (∀ W, Rq W b s J 0 0 → Below w0.heap.size w0 W → Calls Tryd.prog 115 #[.pointer (some ⟨b, 0, none⟩), .int .i64 (d : Int)] W (PostP b s W r)) := ⟨fun W hR hB => by
          have := HFF.out J W hB hR hsk.2
          rwa [hr] at this⟩
        rw [hr] at HT'
        clear hT' hR hsg hJ hr
        go_upto_region 3 with (go_at_call 90; (with_reducible refine CN.out.mono ?_); rintro e w2 ⟨rfl, hr, hk⟩; have HR2 := Aside0.mk hr; have HKn := Aside0.mk hk; have hz2 := hk.size; clear hr hk)
        have HKq : Aside0 (Kb b w w2.drew) := ⟨(HK.out.trans HKn.out).trans (Kb.drewN w2 1)⟩
        have HRq : Aside0 (Rq w2.drew b s J 0 0) := ⟨HR2.out⟩
        have HPq : Aside0 (w2.drew.heap[w.heap.size]? = some (.cells #[.int .i64 0, .string ⟨#[]⟩, .slice none 0 0, .slice none 0 0] 25 (0, 0))) := ⟨HKn.out.blk HPv.out (by omega)⟩
        have HQq : Aside0 (w2.drew.heap[Q]? = some (.cells #[.int .i64 k, .string t, .slice A n c, .slice B m d1] 25 (0, 0))) := ⟨HKn.out.blk HQv.out (by omega)⟩
        have HPAq : Aside0 (PathAt w2.drew (fun g => w.heap.size + 1 ≤ g ∧ g ≠ Q) p [.int .i64 k, .string t, .slice A n c, .slice B m d1]) := ⟨PathAt.drewN (HKn.out.path (fun g hg => by omega) HPA.out) 1⟩
        have hzq : wv.heap.size ≤ w2.drew.heap.size := hz2
        have hS : (fun _ : World => True) w2.drew := trivial
        refine wp_region_held (S := (fun _ : World => True)) (by kernel_rfl) ?_
        change wpAnyH _ _ _ _ _ _ _ _ w2.drew
        generalize w2.drew = wq at hS HKq HRq HPq HQq HPAq hzq ⊢
        have CI := Aside0.mk (CI.out wq HRq.out (hB.trans (HKq.out.1.mono hb)))
        clear HR2 HKn CN hz2
        have q0 := blk_cell HQq.out 0; have q1 := blk_cell HQq.out 1; have q2 := blk_cell HQq.out 2; have q3 := blk_cell HQq.out 3; simp at q0 q1 q2 q3; have k0 := blk_frozen HQq.out 0; have k1 := blk_frozen HQq.out 1; have k2 := blk_frozen HQq.out 2; have k3 := blk_frozen HQq.out 3
        first | refine tkU 1 hS ?_ | (refine tkV 1 (v := ?_) hS ?_ ?_; rotate_left 1; · (intro w0 hSw; (try dsimp only at hSw); go_split_ands; go_simp; try with_reducible rfl)) | fail
        try simp only [Act.put, pL]
        first | refine tkU 2 hS ?_ | (refine tkV 2 (v := ?_) hS ?_ ?_; rotate_left 1; · (intro w0 hSw; (try dsimp only at hSw); go_split_ands; go_simp; try with_reducible rfl)) | fail
        try simp only [Act.put, pL]
        refine wpAnyH_ready (rs := [0, 3]) (by kernel_rfl) (by simp) ?_
        refine AllReadyH.cons rfl (fun K hK => ?_) (AllReadyH.cons rfl (fun K hK => ?_) AllReadyH.nil)
        · skip
          go_simp
          refine hK.out _ _ trivial (fun _ => ?_)
          clear hK K
          try simp only [Act.put, List.getElem_toArray, List.getElem_cons_succ, List.getElem_cons_zero, List.setIfInBounds_toArray, List.set_cons_zero, List.set_cons_succ]
          refine wpAnyH_ready (rs := [3]) (by kernel_rfl) (by simp) ?_
          refine AllReadyH.cons rfl (fun K hK => ?_) AllReadyH.nil
          go_simp
          refine CI.out.mono ?_
          rintro e w3 ⟨k', t', A', n', c', B', m', d', rfl, hk, hok, hno⟩
          have HK3 := Aside0.mk (HKq.out.trans hk)
          have HOK3 := Aside0.mk hok
          have HNO3 := Aside0.mk hno
          have HP3 := Aside0.mk (hk.blk HPq.out (by omega))
          have HQ3 := Aside0.mk (hk.blk HQq.out (by omega))
          have HPA3 := Aside0.mk (hk.path (fun g hg => by omega) HPAq.out)
          have hz3 := hk.size
          clear hk hok hno q0 q1 q2 q3
          have q0 := blk_cell HQ3.out 0; have q1 := blk_cell HQ3.out 1; have q2 := blk_cell HQ3.out 2; have q3 := blk_cell HQ3.out 3; simp at q0 q1 q2 q3; have k0 := blk_frozen HQ3.out 0; have k1 := blk_frozen HQ3.out 1; have k2 := blk_frozen HQ3.out 2; have k3 := blk_frozen HQ3.out 3
          refine hK.out _ _ trivial (fun _ => ?_)
          clear hK K
          try simp only [Act.put, List.getElem_toArray, List.getElem_cons_succ, List.getElem_cons_zero, List.setIfInBounds_toArray, List.set_cons_zero, List.set_cons_succ]
          refine wpAnyH_ready (rs := [4]) (by kernel_rfl) (by simp) ?_
          refine AllReadyH.cons rfl (fun K hK => ?_) AllReadyH.nil
          go_simp
          refine hK.out _ _ trivial (fun _ => ?_)
          clear hK K
          try simp only [Act.put, List.getElem_toArray, List.getElem_cons_succ, List.getElem_cons_zero, List.setIfInBounds_toArray, List.set_cons_zero, List.set_cons_succ]
          obtain ⟨w4, hw4, HB4⟩ : ∃ w4, w4 = w3.alloc (.cells #[.int .i64 k, .string t, .slice A n c, .slice B m d1, .int .i64 k', .string t', .slice A' n' c', .slice B' m' d'] 25) ∧ Aside0 (Below w3.heap.size w3 w4) := ⟨_, rfl, ⟨below_alloc (Below.refl _ _) _⟩⟩
          rw [← hw4]
          have HG4 : Aside0 (w4.heap[w3.heap.size]? = some (.cells #[.int .i64 k, .string t, .slice A n c, .slice B m d1, .int .i64 k', .string t', .slice A' n' c', .slice B' m' d'] 25 (0, 0))) := ⟨by rw [hw4]; exact heap_alloc_new _ _⟩
          have HK4 := Aside0.mk (HK3.out.trans (Kb.of HB4.out (by omega)))
          have HP4 := Aside0.mk (blk_below HP3.out HB4.out)
          have HQ4 := Aside0.mk (blk_below HQ3.out HB4.out)
          clear hw4 q0 q1 q2 q3 k0 k1 k2 k3
          have q0 := blk_cell HQ4.out 0; have q1 := blk_cell HQ4.out 1; have q2 := blk_cell HQ4.out 2; have q3 := blk_cell HQ4.out 3; simp at q0 q1 q2 q3; have k0 := blk_frozen HQ4.out 0; have k1 := blk_frozen HQ4.out 1; have k2 := blk_frozen HQ4.out 2; have k3 := blk_frozen HQ4.out 3
          first | refine tkU 5 hS ?_ | (refine tkV 5 (v := ?_) hS ?_ ?_; rotate_left 1; · (intro w0 hSw; (try dsimp only at hSw); go_split_ands; go_simp; try with_reducible rfl)) | fail
          try simp only [Act.put, pL]
          refine wpAnyH_ready (rs := [6]) (by kernel_rfl) (by simp) ?_
          refine AllReadyH.cons rfl (fun K hK => ?_) AllReadyH.nil
          go_simp
          refine hK.out _ _ trivial (fun _ => ?_)
          clear hK K
          try simp only [Act.put, List.getElem_toArray, List.getElem_cons_succ, List.getElem_cons_zero, List.setIfInBounds_toArray, List.set_cons_zero, List.set_cons_succ]
          refine wpAnyH_done (by kernel_rfl) ?_ _
          obtain ⟨W3, hW3⟩ : ∃ W3, w3.heap.size = W3 := ⟨_, rfl⟩
          rw [hW3] at HG4 hz3
          rw [hW3]
          have HI : Aside0 (∃ wf, wf = (((w4.setCell ⟨Q, 0, none⟩ (.int .i64 3)).setCell ⟨Q, 1, none⟩ (.string ⟨#[]⟩)).setCell ⟨Q, 2, none⟩ (.slice none 0 0)).setCell ⟨Q, 3, none⟩ (.slice (some ⟨W3, 0, none⟩) 2 2) ∧ LoopI w wf b Q s (chainS s 47 3 F) TOT ∧ mOf wf b s.size < mOf wv b s.size) := ⟨by
            rw [HM.out]
            have hT := HT'.out
            cases r with
            | ok q j2 =>
              obtain ⟨hr3, hp3⟩ := HOK3.out q j2 rfl
              have ha := HAdv.out q j2 rfl
              obtain ⟨wf, hwf, HRf, HKf, HNf, HPf, HGf, HSf⟩ := fin4 (hr3.below HB4.out) HK4.out hbl (show w.heap.size ≤ Q by omega) HQ4.out (.int .i64 3) (.string ⟨#[]⟩) (.slice none 0 0) (.slice (some ⟨W3, 0, none⟩) 2 2)
              refine ⟨wf, hwf, ⟨_, _, _, _, _, _, _, _, HNf.out, HGf.out _ _ (by omega) HP4.out, HKf.out, .inl ⟨f, j2, _, HRf.out, ha.2, by omega, path_two (HPf.out _ _ _ (fun g hg => hg.2) (HPA3.out.below HB4.out)) (HPf.out _ _ _ (fun g hg => hg.2) (PathAt.mono (fun g hg hl => ⟨by omega, by omega⟩) _ (hp3.below HB4.out))) ⟨by omega, by omega⟩ (HGf.out _ _ (by omega) HG4.out), hT⟩⟩, ?_⟩
              rw [mOf_ok HRf.out]; omega
            | no er a =>
              obtain ⟨he, i3, hr3⟩ := HNO3.out er a rfl
              obtain ⟨wf, hwf, HRf, HKf, HNf, HPf, HGf, HSf⟩ := fin4 (hr3.below HB4.out) HK4.out hbl (show w.heap.size ≤ Q by omega) HQ4.out (.int .i64 3) (.string ⟨#[]⟩) (.slice none 0 0) (.slice (some ⟨W3, 0, none⟩) 2 2)
              refine ⟨wf, hwf, ⟨_, _, _, _, _, _, _, _, HNf.out, HGf.out _ _ (by omega) HP4.out, HKf.out, .inr ⟨i3, er, a, he, HRf.out, hT.symm⟩⟩, ?_⟩
              rw [mOf_err HRf.out he]; omega⟩
          obtain ⟨wf, hwf, hI1, hI2⟩ := HI.out
          rw [← hwf]
          clear hwf
          go_wp2_with fail
          go_roundw
          case rel => exact ⟨hI1⟩
          case measure => exact hI2
        · skip
          go_simp
          refine CI.out.mono ?_
          rintro e w3 ⟨k', t', A', n', c', B', m', d', rfl, hk, hok, hno⟩
          have HK3 := Aside0.mk (HKq.out.trans hk)
          have HOK3 := Aside0.mk hok
          have HNO3 := Aside0.mk hno
          have HP3 := Aside0.mk (hk.blk HPq.out (by omega))
          have HQ3 := Aside0.mk (hk.blk HQq.out (by omega))
          have HPA3 := Aside0.mk (hk.path (fun g hg => by omega) HPAq.out)
          have hz3 := hk.size
          clear hk hok hno q0 q1 q2 q3
          have q0 := blk_cell HQ3.out 0; have q1 := blk_cell HQ3.out 1; have q2 := blk_cell HQ3.out 2; have q3 := blk_cell HQ3.out 3; simp at q0 q1 q2 q3; have k0 := blk_frozen HQ3.out 0; have k1 := blk_frozen HQ3.out 1; have k2 := blk_frozen HQ3.out 2; have k3 := blk_frozen HQ3.out 3
          refine hK.out _ _ trivial (fun _ => ?_)
          clear hK K
          try simp only [Act.put, List.getElem_toArray, List.getElem_cons_succ, List.getElem_cons_zero, List.setIfInBounds_toArray, List.set_cons_zero, List.set_cons_succ]
          refine wpAnyH_ready (rs := [0]) (by kernel_rfl) (by simp) ?_
          refine AllReadyH.cons rfl (fun K hK => ?_) AllReadyH.nil
          go_simp
          refine hK.out _ _ trivial (fun _ => ?_)
          clear hK K
          try simp only [Act.put, List.getElem_toArray, List.getElem_cons_succ, List.getElem_cons_zero, List.setIfInBounds_toArray, List.set_cons_zero, List.set_cons_succ]
          refine wpAnyH_ready (rs := [4]) (by kernel_rfl) (by simp) ?_
          refine AllReadyH.cons rfl (fun K hK => ?_) AllReadyH.nil
          go_simp
          refine hK.out _ _ trivial (fun _ => ?_)
          clear hK K
          try simp only [Act.put, List.getElem_toArray, List.getElem_cons_succ, List.getElem_cons_zero, List.setIfInBounds_toArray, List.set_cons_zero, List.set_cons_succ]
          obtain ⟨w4, hw4, HB4⟩ : ∃ w4, w4 = w3.alloc (.cells #[.int .i64 k, .string t, .slice A n c, .slice B m d1, .int .i64 k', .string t', .slice A' n' c', .slice B' m' d'] 25) ∧ Aside0 (Below w3.heap.size w3 w4) := ⟨_, rfl, ⟨below_alloc (Below.refl _ _) _⟩⟩
          rw [← hw4]
          have HG4 : Aside0 (w4.heap[w3.heap.size]? = some (.cells #[.int .i64 k, .string t, .slice A n c, .slice B m d1, .int .i64 k', .string t', .slice A' n' c', .slice B' m' d'] 25 (0, 0))) := ⟨by rw [hw4]; exact heap_alloc_new _ _⟩
          have HK4 := Aside0.mk (HK3.out.trans (Kb.of HB4.out (by omega)))
          have HP4 := Aside0.mk (blk_below HP3.out HB4.out)
          have HQ4 := Aside0.mk (blk_below HQ3.out HB4.out)
          clear hw4 q0 q1 q2 q3 k0 k1 k2 k3
          have q0 := blk_cell HQ4.out 0; have q1 := blk_cell HQ4.out 1; have q2 := blk_cell HQ4.out 2; have q3 := blk_cell HQ4.out 3; simp at q0 q1 q2 q3; have k0 := blk_frozen HQ4.out 0; have k1 := blk_frozen HQ4.out 1; have k2 := blk_frozen HQ4.out 2; have k3 := blk_frozen HQ4.out 3
          first | refine tkU 5 hS ?_ | (refine tkV 5 (v := ?_) hS ?_ ?_; rotate_left 1; · (intro w0 hSw; (try dsimp only at hSw); go_split_ands; go_simp; try with_reducible rfl)) | fail
          try simp only [Act.put, pL]
          refine wpAnyH_ready (rs := [6]) (by kernel_rfl) (by simp) ?_
          refine AllReadyH.cons rfl (fun K hK => ?_) AllReadyH.nil
          go_simp
          refine hK.out _ _ trivial (fun _ => ?_)
          clear hK K
          try simp only [Act.put, List.getElem_toArray, List.getElem_cons_succ, List.getElem_cons_zero, List.setIfInBounds_toArray, List.set_cons_zero, List.set_cons_succ]
          refine wpAnyH_done (by kernel_rfl) ?_ _
          obtain ⟨W3, hW3⟩ : ∃ W3, w3.heap.size = W3 := ⟨_, rfl⟩
          rw [hW3] at HG4 hz3
          rw [hW3]
          have HI : Aside0 (∃ wf, wf = (((w4.setCell ⟨Q, 0, none⟩ (.int .i64 3)).setCell ⟨Q, 1, none⟩ (.string ⟨#[]⟩)).setCell ⟨Q, 2, none⟩ (.slice none 0 0)).setCell ⟨Q, 3, none⟩ (.slice (some ⟨W3, 0, none⟩) 2 2) ∧ LoopI w wf b Q s (chainS s 47 3 F) TOT ∧ mOf wf b s.size < mOf wv b s.size) := ⟨by
            rw [HM.out]
            have hT := HT'.out
            cases r with
            | ok q j2 =>
              obtain ⟨hr3, hp3⟩ := HOK3.out q j2 rfl
              have ha := HAdv.out q j2 rfl
              obtain ⟨wf, hwf, HRf, HKf, HNf, HPf, HGf, HSf⟩ := fin4 (hr3.below HB4.out) HK4.out hbl (show w.heap.size ≤ Q by omega) HQ4.out (.int .i64 3) (.string ⟨#[]⟩) (.slice none 0 0) (.slice (some ⟨W3, 0, none⟩) 2 2)
              refine ⟨wf, hwf, ⟨_, _, _, _, _, _, _, _, HNf.out, HGf.out _ _ (by omega) HP4.out, HKf.out, .inl ⟨f, j2, _, HRf.out, ha.2, by omega, path_two (HPf.out _ _ _ (fun g hg => hg.2) (HPA3.out.below HB4.out)) (HPf.out _ _ _ (fun g hg => hg.2) (PathAt.mono (fun g hg hl => ⟨by omega, by omega⟩) _ (hp3.below HB4.out))) ⟨by omega, by omega⟩ (HGf.out _ _ (by omega) HG4.out), hT⟩⟩, ?_⟩
              rw [mOf_ok HRf.out]; omega
            | no er a =>
              obtain ⟨he, i3, hr3⟩ := HNO3.out er a rfl
              obtain ⟨wf, hwf, HRf, HKf, HNf, HPf, HGf, HSf⟩ := fin4 (hr3.below HB4.out) HK4.out hbl (show w.heap.size ≤ Q by omega) HQ4.out (.int .i64 3) (.string ⟨#[]⟩) (.slice none 0 0) (.slice (some ⟨W3, 0, none⟩) 2 2)
              refine ⟨wf, hwf, ⟨_, _, _, _, _, _, _, _, HNf.out, HGf.out _ _ (by omega) HP4.out, HKf.out, .inr ⟨i3, er, a, he, HRf.out, hT.symm⟩⟩, ?_⟩
              rw [mOf_err HRf.out he]; omega⟩
          obtain ⟨wf, hwf, hI1, hI2⟩ := HI.out
          rw [← hwf]
          clear hwf
          go_wp2_with fail
          go_roundw
          case rel => exact ⟨hI1⟩
          case measure => exact hI2
      · rw [chain_end hsg] at hT'
        have HT' := Aside0.mk hT'
        have CN := Aside0.mk (is_no b s j 0 47 0 wv hR hs hj hsg)
        simp only [Int.cast_ofNat_Int] at CN
        clear hT' hR hsg
        go_wp2_with (go_at_call 90; (with_reducible refine CN.out.mono ?_); rintro e w2 ⟨rfl, hr, hk⟩; have HR2 := Aside0.mk hr; have HK2 := Aside0.mk (HK.out.trans hk); have HKn := Aside0.mk hk; have HPw := Aside0.mk (hk.blk HPv.out (by omega)); have HQw := Aside0.mk (hk.blk HQv.out (by omega)); have hz2 := hk.size; obtain ⟨c0, c1, c2, c3, f1, f2, f3⟩ := hr.cells; have q0 := blk_cell HPw.out 0; have q1 := blk_cell HPw.out 1; have q2 := blk_cell HPw.out 2; have q3 := blk_cell HPw.out 3; simp at q0 q1 q2 q3; have k0 := blk_frozen HPw.out 0; have k1 := blk_frozen HPw.out 1; have k2 := blk_frozen HPw.out 2; have k3 := blk_frozen HPw.out 3; have m0 := blk_cell HQw.out 0; have m1 := blk_cell HQw.out 1; have m2 := blk_cell HQw.out 2; have m3 := blk_cell HQw.out 3; simp at m0 m1 m2 m3; have l0 := blk_frozen HQw.out 0; have l1 := blk_frozen HQw.out 1; have l2 := blk_frozen HQw.out 2; have l3 := blk_frozen HQw.out 3; clear hr hk)
        obtain ⟨wf, hwf, HRf, HKf, HNf, HPf, HGf, HSf⟩ := fin4 HR2.out HK2.out hbl (Nat.le_refl _) HPw.out (.int .i64 k) (.string t) ((.slice A n c)) ((.slice B m d1))
        rw [← hwf]
        have z0 := blk_cell HNf.out 0
        have z1 := blk_cell HNf.out 1
        have z2 := blk_cell HNf.out 2
        have z3 := blk_cell HNf.out 3
        simp at z0 z1 z2 z3
        clear hwf
        refine bodyPost_ret (by simp [results, Tryd.results89, go_sem, z0, z1, z2, z3]; try rfl) rfl ?_
        rw [← HT'.out]
        exact PostP.ok HKf.out HRf.out (PathAt.mono (fun g hg _ => by omega) _ (HPf.out _ _ _ (fun g hg => by omega) (HKn.out.path (fun g hg => by omega) HPA.out)))
    · have CN := Aside0.mk (is_err b s j a 47 er wv hR he (by decide))
      simp only [Int.cast_ofNat_Int] at CN
      have HT' := Aside0.mk hT'
      clear hT' hR
      go_wp2_with (go_at_call 90; (with_reducible refine CN.out.mono ?_); rintro e w2 ⟨rfl, hr, hk⟩; have HR2 := Aside0.mk hr; have HK2 := Aside0.mk (HK.out.trans hk); have HKn := Aside0.mk hk; have HPw := Aside0.mk (hk.blk HPv.out (by omega)); have HQw := Aside0.mk (hk.blk HQv.out (by omega)); have hz2 := hk.size; obtain ⟨c0, c1, c2, c3, f1, f2, f3⟩ := hr.cells; have q0 := blk_cell HPw.out 0; have q1 := blk_cell HPw.out 1; have q2 := blk_cell HPw.out 2; have q3 := blk_cell HPw.out 3; simp at q0 q1 q2 q3; have k0 := blk_frozen HPw.out 0; have k1 := blk_frozen HPw.out 1; have k2 := blk_frozen HPw.out 2; have k3 := blk_frozen HPw.out 3; have m0 := blk_cell HQw.out 0; have m1 := blk_cell HQw.out 1; have m2 := blk_cell HQw.out 2; have m3 := blk_cell HQw.out 3; simp at m0 m1 m2 m3; have l0 := blk_frozen HQw.out 0; have l1 := blk_frozen HQw.out 1; have l2 := blk_frozen HQw.out 2; have l3 := blk_frozen HQw.out 3; clear hr hk)
      obtain ⟨wf, hwf, HRf, HKf, HNf, HPf, HGf, HSf⟩ := fin4 HR2.out HK2.out hbl (Nat.le_refl _) HPw.out (.int .i64 k) (.string t) ((.slice A n c)) ((.slice B m d1))
      rw [← hwf]
      have z0 := blk_cell HNf.out 0
      have z1 := blk_cell HNf.out 1
      have z2 := blk_cell HNf.out 2
      have z3 := blk_cell HNf.out 3
      simp at z0 z1 z2 z3
      clear hwf
      refine bodyPost_ret (by simp [results, Tryd.results89, go_sem, z0, z1, z2, z3]; try rfl) rfl ?_
      rw [HT'.out]
      exact PostP.no HKf.out he HRf.out
set_option maxRecDepth 100000 in
set_option maxHeartbeats 8000000 in
theorem path_any (b : Nat) (s : ByteArray) (i d : Nat) (w0 w : World) (hR : Rq w b s i 0 0) (hs : s.size ≤ 50000) (hi : i ≤ s.size) (hT : Tabs w0) (hB : Below w0.heap.size w0 w) (hb : w0.heap.size ≤ b) (F : Nat → Res Pth) (hF : ParseC 89 b s w0 d F) (hAdv : ∀ i, Adv s i (F i)) :
    Calls Tryd.prog 55 #[.pointer (some ⟨b, 0, none⟩), .int .i64 (d : Int)] w (PostP b s w (thenR (chainS s 124 4 F (s.size + 1)) (F i))) := by
  have hbl := blk_lt hR
  have hs3 : (s.size : Int) ≤ 50000 := by omega
  obtain ⟨wa, hwa, HKa, HBa, HNa, HZa⟩ := res4 w hbl
  have HRa : Aside0 (Rq wa b s i 0 0) := ⟨hR.below HBa.out⟩
  have HHW : Aside0 (w.alloc (.cells #[.int .i64 0, .string ⟨#[]⟩, .slice none 0 0, .slice none 0 0] 25) = wa) := ⟨hwa.symm⟩
  have HBa := Aside0.mk (hB.trans (HKa.out.1.mono hb))
  have CB := Aside0.mk (hF i wa HBa.out HRa.out hi)
  obtain ⟨r, hr⟩ : ∃ r, F i = r := ⟨_, rfl⟩
  have HAdv := Aside0.mk (hr ▸ hAdv i)
  rw [hr] at CB ⊢
  obtain ⟨TOT, hTOT⟩ : ∃ T, thenR (chainS s 124 4 F (s.size + 1)) r = T := ⟨_, rfl⟩
  rw [hTOT]
  have HTOT := Aside0.mk hTOT
  have HAF := Aside0.mk hAdv
  have HFF := Aside0.mk hF
  clear hR hwa hF hAdv hr hTOT
  go_enter Tryd.func55, Tryd.ntmps55
  go_upto_region 1 with (fail)
  rw [HHW.out]
  go_wp2_with (go_at_call 89; (with_reducible refine CB.out.mono ?_); rintro e w2 ⟨k', t', A', n', c', B', m', d', rfl, hk, hok, hno⟩; have HK2 := Aside0.mk (HKa.out.trans hk); have HOK2 := Aside0.mk hok; have HNO2 := Aside0.mk hno; have HP2 := Aside0.mk (hk.blk HNa.out (by omega)); have hlt2 := blk_lt HP2.out; clear hk hok hno)
  obtain ⟨w3, hw3, HB3⟩ : ∃ w3, w3 = w2.alloc (.cells #[.int .i64 k', .string t', .slice A' n' c', .slice B' m' d'] 25) ∧ Aside0 (Below w2.heap.size w2 w3) := ⟨_, rfl, ⟨below_alloc (Below.refl _ _) _⟩⟩
  rw [← hw3]
  have HQ3 : Aside0 (w3.heap[w2.heap.size]? = some (.cells #[.int .i64 k', .string t', .slice A' n' c', .slice B' m' d'] 25 (0, 0))) := ⟨by rw [hw3]; exact heap_alloc_new _ _⟩
  have HP3 := Aside0.mk (blk_below HP2.out HB3.out)
  have HK3 := Aside0.mk (HK2.out.trans (Kb.of HB3.out (by omega)))
  obtain ⟨Q, hQ⟩ : ∃ Q, w2.heap.size = Q := ⟨_, rfl⟩
  have HQ := Aside0.mk hQ
  rw [hQ] at HQ3 hlt2
  rw [hQ]
  have HI : Aside0 (LoopI w w3 b Q s (chainS s 124 4 F) TOT) := ⟨by
    refine ⟨_, _, _, _, _, _, _, _, HQ3.out, HP3.out, HK3.out, ?_⟩
    have hT := HTOT.out
    cases r with
    | ok p j =>
      obtain ⟨hr3, hp3⟩ := HOK2.out p j rfl
      have ha := HAdv.out p j rfl
      exact .inl ⟨s.size + 1, j, p, hr3.below HB3.out, ha.2, by omega, PathAt.below (PathAt.mono (fun g hg hl => ⟨by have := HZa.out; omega, by have := HQ.out; omega⟩) _ hp3) HB3.out, hT⟩
    | no er a =>
      obtain ⟨he, i3, hr3⟩ := HNO2.out er a rfl
      exact .inr ⟨i3, er, a, he, hr3.below HB3.out, hT.symm⟩⟩
  have hQ0 : w.heap.size + 1 ≤ Q := by omega
  clear hw3 hQ HQ HTOT HAdv HOK2 HNO2 HQ3 HP3 HK3 HB3 HP2 HK2 CB HNa HKa HBa HRa HHW HZa hlt2
  go_loopw [10] (fun x wr => Aside0 (LoopI w wr b Q s (chainS s 124 4 F) TOT)) (fun x wr => mOf wr b s.size)
  case atStart => exact HI
  case round =>
    clear HI
    obtain ⟨wv, rfl⟩ : ∃ x, x = wr := ⟨wr, rfl⟩
    obtain ⟨k, t, A, n, c, B, m, d1, hQ, hP, hK, hcase⟩ := hrel.out
    have HQv := Aside0.mk hQ
    have HPv := Aside0.mk hP
    have HK := Aside0.mk hK
    have hwz := hK.size
    have hQz := blk_lt hQ
    clear hQ hP hK hrel
    rcases hcase with ⟨f, j, p, hR, hj, hf, hp, hT'⟩ | ⟨j, er, a, he, hR, hT'⟩
    · obtain ⟨f, rfl⟩ : ∃ g, f = g + 1 := ⟨f - 1, by omega⟩
      have HM := Aside0.mk (mOf_ok hR)
      have HPA := Aside0.mk hp
      clear hp
      by_cases hsg : nx s j = 124
      · rw [chain_on hsg] at hT'
        have HT' := Aside0.mk hT'
        have hsk := nx_adv (s := s) (i := j) (by omega)
        have CN := Aside0.mk (is_yes b s j 0 124 0 wv hR hs hj hsg (by decide))
        simp only [Int.cast_ofNat_Int] at CN
        obtain ⟨J, hJ⟩ : ∃ J, skip s j + 1 = J := ⟨_, rfl⟩
        rw [hJ] at CN hsk HT'
        obtain ⟨r, hr⟩ : ∃ r, F J = r := ⟨_, rfl⟩
        have HAdv := Aside0.mk (hr ▸ HAF.out J)
        have CI : Aside0 (∀ W, Rq W b s J 0 0 → Below w0.heap.size w0 W → Calls Tryd.prog 89 #[.pointer (some ⟨b, 0, none⟩), .int .i64 (d : Int)] W (PostP b s W r)) := ⟨fun W hR hB => by
          have := HFF.out J W hB hR hsk.2
          rwa [hr] at this⟩
        rw [hr] at HT'
        clear hT' hR hsg hJ hr
        go_upto_region 3 with (go_at_call 90; (with_reducible refine CN.out.mono ?_); rintro e w2 ⟨rfl, hr, hk⟩; have HR2 := Aside0.mk hr; have HKn := Aside0.mk hk; have hz2 := hk.size; clear hr hk)
        have HKq : Aside0 (Kb b w w2.drew) := ⟨(HK.out.trans HKn.out).trans (Kb.drewN w2 1)⟩
        have HRq : Aside0 (Rq w2.drew b s J 0 0) := ⟨HR2.out⟩
        have HPq : Aside0 (w2.drew.heap[w.heap.size]? = some (.cells #[.int .i64 0, .string ⟨#[]⟩, .slice none 0 0, .slice none 0 0] 25 (0, 0))) := ⟨HKn.out.blk HPv.out (by omega)⟩
        have HQq : Aside0 (w2.drew.heap[Q]? = some (.cells #[.int .i64 k, .string t, .slice A n c, .slice B m d1] 25 (0, 0))) := ⟨HKn.out.blk HQv.out (by omega)⟩
        have HPAq : Aside0 (PathAt w2.drew (fun g => w.heap.size + 1 ≤ g ∧ g ≠ Q) p [.int .i64 k, .string t, .slice A n c, .slice B m d1]) := ⟨PathAt.drewN (HKn.out.path (fun g hg => by omega) HPA.out) 1⟩
        have hzq : wv.heap.size ≤ w2.drew.heap.size := hz2
        have hS : (fun _ : World => True) w2.drew := trivial
        refine wp_region_held (S := (fun _ : World => True)) (by kernel_rfl) ?_
        change wpAnyH _ _ _ _ _ _ _ _ w2.drew
        generalize w2.drew = wq at hS HKq HRq HPq HQq HPAq hzq ⊢
        have CI := Aside0.mk (CI.out wq HRq.out (hB.trans (HKq.out.1.mono hb)))
        clear HR2 HKn CN hz2
        have q0 := blk_cell HQq.out 0; have q1 := blk_cell HQq.out 1; have q2 := blk_cell HQq.out 2; have q3 := blk_cell HQq.out 3; simp at q0 q1 q2 q3; have k0 := blk_frozen HQq.out 0; have k1 := blk_frozen HQq.out 1; have k2 := blk_frozen HQq.out 2; have k3 := blk_frozen HQq.out 3
        first | refine tkU 1 hS ?_ | (refine tkV 1 (v := ?_) hS ?_ ?_; rotate_left 1; · (intro w0 hSw; (try dsimp only at hSw); go_split_ands; go_simp; try with_reducible rfl)) | fail
        try simp only [Act.put, pL]
        first | refine tkU 2 hS ?_ | (refine tkV 2 (v := ?_) hS ?_ ?_; rotate_left 1; · (intro w0 hSw; (try dsimp only at hSw); go_split_ands; go_simp; try with_reducible rfl)) | fail
        try simp only [Act.put, pL]
        refine wpAnyH_ready (rs := [0, 3]) (by kernel_rfl) (by simp) ?_
        refine AllReadyH.cons rfl (fun K hK => ?_) (AllReadyH.cons rfl (fun K hK => ?_) AllReadyH.nil)
        · skip
          go_simp
          refine hK.out _ _ trivial (fun _ => ?_)
          clear hK K
          try simp only [Act.put, List.getElem_toArray, List.getElem_cons_succ, List.getElem_cons_zero, List.setIfInBounds_toArray, List.set_cons_zero, List.set_cons_succ]
          refine wpAnyH_ready (rs := [3]) (by kernel_rfl) (by simp) ?_
          refine AllReadyH.cons rfl (fun K hK => ?_) AllReadyH.nil
          go_simp
          refine CI.out.mono ?_
          rintro e w3 ⟨k', t', A', n', c', B', m', d', rfl, hk, hok, hno⟩
          have HK3 := Aside0.mk (HKq.out.trans hk)
          have HOK3 := Aside0.mk hok
          have HNO3 := Aside0.mk hno
          have HP3 := Aside0.mk (hk.blk HPq.out (by omega))
          have HQ3 := Aside0.mk (hk.blk HQq.out (by omega))
          have HPA3 := Aside0.mk (hk.path (fun g hg => by omega) HPAq.out)
          have hz3 := hk.size
          clear hk hok hno q0 q1 q2 q3
          have q0 := blk_cell HQ3.out 0; have q1 := blk_cell HQ3.out 1; have q2 := blk_cell HQ3.out 2; have q3 := blk_cell HQ3.out 3; simp at q0 q1 q2 q3; have k0 := blk_frozen HQ3.out 0; have k1 := blk_frozen HQ3.out 1; have k2 := blk_frozen HQ3.out 2; have k3 := blk_frozen HQ3.out 3
          refine hK.out _ _ trivial (fun _ => ?_)
          clear hK K
          try simp only [Act.put, List.getElem_toArray, List.getElem_cons_succ, List.getElem_cons_zero, List.setIfInBounds_toArray, List.set_cons_zero, List.set_cons_succ]
          refine wpAnyH_ready (rs := [4]) (by kernel_rfl) (by simp) ?_
          refine AllReadyH.cons rfl (fun K hK => ?_) AllReadyH.nil
          go_simp
          refine hK.out _ _ trivial (fun _ => ?_)
          clear hK K
          try simp only [Act.put, List.getElem_toArray, List.getElem_cons_succ, List.getElem_cons_zero, List.setIfInBounds_toArray, List.set_cons_zero, List.set_cons_succ]
          obtain ⟨w4, hw4, HB4⟩ : ∃ w4, w4 = w3.alloc (.cells #[.int .i64 k, .string t, .slice A n c, .slice B m d1, .int .i64 k', .string t', .slice A' n' c', .slice B' m' d'] 25) ∧ Aside0 (Below w3.heap.size w3 w4) := ⟨_, rfl, ⟨below_alloc (Below.refl _ _) _⟩⟩
          rw [← hw4]
          have HG4 : Aside0 (w4.heap[w3.heap.size]? = some (.cells #[.int .i64 k, .string t, .slice A n c, .slice B m d1, .int .i64 k', .string t', .slice A' n' c', .slice B' m' d'] 25 (0, 0))) := ⟨by rw [hw4]; exact heap_alloc_new _ _⟩
          have HK4 := Aside0.mk (HK3.out.trans (Kb.of HB4.out (by omega)))
          have HP4 := Aside0.mk (blk_below HP3.out HB4.out)
          have HQ4 := Aside0.mk (blk_below HQ3.out HB4.out)
          clear hw4 q0 q1 q2 q3 k0 k1 k2 k3
          have q0 := blk_cell HQ4.out 0; have q1 := blk_cell HQ4.out 1; have q2 := blk_cell HQ4.out 2; have q3 := blk_cell HQ4.out 3; simp at q0 q1 q2 q3; have k0 := blk_frozen HQ4.out 0; have k1 := blk_frozen HQ4.out 1; have k2 := blk_frozen HQ4.out 2; have k3 := blk_frozen HQ4.out 3
          first | refine tkU 5 hS ?_ | (refine tkV 5 (v := ?_) hS ?_ ?_; rotate_left 1; · (intro w0 hSw; (try dsimp only at hSw); go_split_ands; go_simp; try with_reducible rfl)) | fail
          try simp only [Act.put, pL]
          refine wpAnyH_ready (rs := [6]) (by kernel_rfl) (by simp) ?_
          refine AllReadyH.cons rfl (fun K hK => ?_) AllReadyH.nil
          go_simp
          refine hK.out _ _ trivial (fun _ => ?_)
          clear hK K
          try simp only [Act.put, List.getElem_toArray, List.getElem_cons_succ, List.getElem_cons_zero, List.setIfInBounds_toArray, List.set_cons_zero, List.set_cons_succ]
          refine wpAnyH_done (by kernel_rfl) ?_ _
          obtain ⟨W3, hW3⟩ : ∃ W3, w3.heap.size = W3 := ⟨_, rfl⟩
          rw [hW3] at HG4 hz3
          rw [hW3]
          have HI : Aside0 (∃ wf, wf = (((w4.setCell ⟨Q, 0, none⟩ (.int .i64 4)).setCell ⟨Q, 1, none⟩ (.string ⟨#[]⟩)).setCell ⟨Q, 2, none⟩ (.slice none 0 0)).setCell ⟨Q, 3, none⟩ (.slice (some ⟨W3, 0, none⟩) 2 2) ∧ LoopI w wf b Q s (chainS s 124 4 F) TOT ∧ mOf wf b s.size < mOf wv b s.size) := ⟨by
            rw [HM.out]
            have hT := HT'.out
            cases r with
            | ok q j2 =>
              obtain ⟨hr3, hp3⟩ := HOK3.out q j2 rfl
              have ha := HAdv.out q j2 rfl
              obtain ⟨wf, hwf, HRf, HKf, HNf, HPf, HGf, HSf⟩ := fin4 (hr3.below HB4.out) HK4.out hbl (show w.heap.size ≤ Q by omega) HQ4.out (.int .i64 4) (.string ⟨#[]⟩) (.slice none 0 0) (.slice (some ⟨W3, 0, none⟩) 2 2)
              refine ⟨wf, hwf, ⟨_, _, _, _, _, _, _, _, HNf.out, HGf.out _ _ (by omega) HP4.out, HKf.out, .inl ⟨f, j2, _, HRf.out, ha.2, by omega, path_two (HPf.out _ _ _ (fun g hg => hg.2) (HPA3.out.below HB4.out)) (HPf.out _ _ _ (fun g hg => hg.2) (PathAt.mono (fun g hg hl => ⟨by omega, by omega⟩) _ (hp3.below HB4.out))) ⟨by omega, by omega⟩ (HGf.out _ _ (by omega) HG4.out), hT⟩⟩, ?_⟩
              rw [mOf_ok HRf.out]; omega
            | no er a =>
              obtain ⟨he, i3, hr3⟩ := HNO3.out er a rfl
              obtain ⟨wf, hwf, HRf, HKf, HNf, HPf, HGf, HSf⟩ := fin4 (hr3.below HB4.out) HK4.out hbl (show w.heap.size ≤ Q by omega) HQ4.out (.int .i64 4) (.string ⟨#[]⟩) (.slice none 0 0) (.slice (some ⟨W3, 0, none⟩) 2 2)
              refine ⟨wf, hwf, ⟨_, _, _, _, _, _, _, _, HNf.out, HGf.out _ _ (by omega) HP4.out, HKf.out, .inr ⟨i3, er, a, he, HRf.out, hT.symm⟩⟩, ?_⟩
              rw [mOf_err HRf.out he]; omega⟩
          obtain ⟨wf, hwf, hI1, hI2⟩ := HI.out
          rw [← hwf]
          clear hwf
          go_wp2_with fail
          go_roundw
          case rel => exact ⟨hI1⟩
          case measure => exact hI2
        · skip
          go_simp
          refine CI.out.mono ?_
          rintro e w3 ⟨k', t', A', n', c', B', m', d', rfl, hk, hok, hno⟩
          have HK3 := Aside0.mk (HKq.out.trans hk)
          have HOK3 := Aside0.mk hok
          have HNO3 := Aside0.mk hno
          have HP3 := Aside0.mk (hk.blk HPq.out (by omega))
          have HQ3 := Aside0.mk (hk.blk HQq.out (by omega))
          have HPA3 := Aside0.mk (hk.path (fun g hg => by omega) HPAq.out)
          have hz3 := hk.size
          clear hk hok hno q0 q1 q2 q3
          have q0 := blk_cell HQ3.out 0; have q1 := blk_cell HQ3.out 1; have q2 := blk_cell HQ3.out 2; have q3 := blk_cell HQ3.out 3; simp at q0 q1 q2 q3; have k0 := blk_frozen HQ3.out 0; have k1 := blk_frozen HQ3.out 1; have k2 := blk_frozen HQ3.out 2; have k3 := blk_frozen HQ3.out 3
          refine hK.out _ _ trivial (fun _ => ?_)
          clear hK K
          try simp only [Act.put, List.getElem_toArray, List.getElem_cons_succ, List.getElem_cons_zero, List.setIfInBounds_toArray, List.set_cons_zero, List.set_cons_succ]
          refine wpAnyH_ready (rs := [0]) (by kernel_rfl) (by simp) ?_
          refine AllReadyH.cons rfl (fun K hK => ?_) AllReadyH.nil
          go_simp
          refine hK.out _ _ trivial (fun _ => ?_)
          clear hK K
          try simp only [Act.put, List.getElem_toArray, List.getElem_cons_succ, List.getElem_cons_zero, List.setIfInBounds_toArray, List.set_cons_zero, List.set_cons_succ]
          refine wpAnyH_ready (rs := [4]) (by kernel_rfl) (by simp) ?_
          refine AllReadyH.cons rfl (fun K hK => ?_) AllReadyH.nil
          go_simp
          refine hK.out _ _ trivial (fun _ => ?_)
          clear hK K
          try simp only [Act.put, List.getElem_toArray, List.getElem_cons_succ, List.getElem_cons_zero, List.setIfInBounds_toArray, List.set_cons_zero, List.set_cons_succ]
          obtain ⟨w4, hw4, HB4⟩ : ∃ w4, w4 = w3.alloc (.cells #[.int .i64 k, .string t, .slice A n c, .slice B m d1, .int .i64 k', .string t', .slice A' n' c', .slice B' m' d'] 25) ∧ Aside0 (Below w3.heap.size w3 w4) := ⟨_, rfl, ⟨below_alloc (Below.refl _ _) _⟩⟩
          rw [← hw4]
          have HG4 : Aside0 (w4.heap[w3.heap.size]? = some (.cells #[.int .i64 k, .string t, .slice A n c, .slice B m d1, .int .i64 k', .string t', .slice A' n' c', .slice B' m' d'] 25 (0, 0))) := ⟨by rw [hw4]; exact heap_alloc_new _ _⟩
          have HK4 := Aside0.mk (HK3.out.trans (Kb.of HB4.out (by omega)))
          have HP4 := Aside0.mk (blk_below HP3.out HB4.out)
          have HQ4 := Aside0.mk (blk_below HQ3.out HB4.out)
          clear hw4 q0 q1 q2 q3 k0 k1 k2 k3
          have q0 := blk_cell HQ4.out 0; have q1 := blk_cell HQ4.out 1; have q2 := blk_cell HQ4.out 2; have q3 := blk_cell HQ4.out 3; simp at q0 q1 q2 q3; have k0 := blk_frozen HQ4.out 0; have k1 := blk_frozen HQ4.out 1; have k2 := blk_frozen HQ4.out 2; have k3 := blk_frozen HQ4.out 3
          first | refine tkU 5 hS ?_ | (refine tkV 5 (v := ?_) hS ?_ ?_; rotate_left 1; · (intro w0 hSw; (try dsimp only at hSw); go_split_ands; go_simp; try with_reducible rfl)) | fail
          try simp only [Act.put, pL]
          refine wpAnyH_ready (rs := [6]) (by kernel_rfl) (by simp) ?_
          refine AllReadyH.cons rfl (fun K hK => ?_) AllReadyH.nil
          go_simp
          refine hK.out _ _ trivial (fun _ => ?_)
          clear hK K
          try simp only [Act.put, List.getElem_toArray, List.getElem_cons_succ, List.getElem_cons_zero, List.setIfInBounds_toArray, List.set_cons_zero, List.set_cons_succ]
          refine wpAnyH_done (by kernel_rfl) ?_ _
          obtain ⟨W3, hW3⟩ : ∃ W3, w3.heap.size = W3 := ⟨_, rfl⟩
          rw [hW3] at HG4 hz3
          rw [hW3]
          have HI : Aside0 (∃ wf, wf = (((w4.setCell ⟨Q, 0, none⟩ (.int .i64 4)).setCell ⟨Q, 1, none⟩ (.string ⟨#[]⟩)).setCell ⟨Q, 2, none⟩ (.slice none 0 0)).setCell ⟨Q, 3, none⟩ (.slice (some ⟨W3, 0, none⟩) 2 2) ∧ LoopI w wf b Q s (chainS s 124 4 F) TOT ∧ mOf wf b s.size < mOf wv b s.size) := ⟨by
            rw [HM.out]
            have hT := HT'.out
            cases r with
            | ok q j2 =>
              obtain ⟨hr3, hp3⟩ := HOK3.out q j2 rfl
              have ha := HAdv.out q j2 rfl
              obtain ⟨wf, hwf, HRf, HKf, HNf, HPf, HGf, HSf⟩ := fin4 (hr3.below HB4.out) HK4.out hbl (show w.heap.size ≤ Q by omega) HQ4.out (.int .i64 4) (.string ⟨#[]⟩) (.slice none 0 0) (.slice (some ⟨W3, 0, none⟩) 2 2)
              refine ⟨wf, hwf, ⟨_, _, _, _, _, _, _, _, HNf.out, HGf.out _ _ (by omega) HP4.out, HKf.out, .inl ⟨f, j2, _, HRf.out, ha.2, by omega, path_two (HPf.out _ _ _ (fun g hg => hg.2) (HPA3.out.below HB4.out)) (HPf.out _ _ _ (fun g hg => hg.2) (PathAt.mono (fun g hg hl => ⟨by omega, by omega⟩) _ (hp3.below HB4.out))) ⟨by omega, by omega⟩ (HGf.out _ _ (by omega) HG4.out), hT⟩⟩, ?_⟩
              rw [mOf_ok HRf.out]; omega
            | no er a =>
              obtain ⟨he, i3, hr3⟩ := HNO3.out er a rfl
              obtain ⟨wf, hwf, HRf, HKf, HNf, HPf, HGf, HSf⟩ := fin4 (hr3.below HB4.out) HK4.out hbl (show w.heap.size ≤ Q by omega) HQ4.out (.int .i64 4) (.string ⟨#[]⟩) (.slice none 0 0) (.slice (some ⟨W3, 0, none⟩) 2 2)
              refine ⟨wf, hwf, ⟨_, _, _, _, _, _, _, _, HNf.out, HGf.out _ _ (by omega) HP4.out, HKf.out, .inr ⟨i3, er, a, he, HRf.out, hT.symm⟩⟩, ?_⟩
              rw [mOf_err HRf.out he]; omega⟩
          obtain ⟨wf, hwf, hI1, hI2⟩ := HI.out
          rw [← hwf]
          clear hwf
          go_wp2_with fail
          go_roundw
          case rel => exact ⟨hI1⟩
          case measure => exact hI2
      · rw [chain_end hsg] at hT'
        have HT' := Aside0.mk hT'
        have CN := Aside0.mk (is_no b s j 0 124 0 wv hR hs hj hsg)
        simp only [Int.cast_ofNat_Int] at CN
        clear hT' hR hsg
        go_wp2_with (go_at_call 90; (with_reducible refine CN.out.mono ?_); rintro e w2 ⟨rfl, hr, hk⟩; have HR2 := Aside0.mk hr; have HK2 := Aside0.mk (HK.out.trans hk); have HKn := Aside0.mk hk; have HPw := Aside0.mk (hk.blk HPv.out (by omega)); have HQw := Aside0.mk (hk.blk HQv.out (by omega)); have hz2 := hk.size; obtain ⟨c0, c1, c2, c3, f1, f2, f3⟩ := hr.cells; have q0 := blk_cell HPw.out 0; have q1 := blk_cell HPw.out 1; have q2 := blk_cell HPw.out 2; have q3 := blk_cell HPw.out 3; simp at q0 q1 q2 q3; have k0 := blk_frozen HPw.out 0; have k1 := blk_frozen HPw.out 1; have k2 := blk_frozen HPw.out 2; have k3 := blk_frozen HPw.out 3; have m0 := blk_cell HQw.out 0; have m1 := blk_cell HQw.out 1; have m2 := blk_cell HQw.out 2; have m3 := blk_cell HQw.out 3; simp at m0 m1 m2 m3; have l0 := blk_frozen HQw.out 0; have l1 := blk_frozen HQw.out 1; have l2 := blk_frozen HQw.out 2; have l3 := blk_frozen HQw.out 3; clear hr hk)
        obtain ⟨wf, hwf, HRf, HKf, HNf, HPf, HGf, HSf⟩ := fin4 HR2.out HK2.out hbl (Nat.le_refl _) HPw.out (.int .i64 k) (.string t) ((.slice A n c)) ((.slice B m d1))
        rw [← hwf]
        have z0 := blk_cell HNf.out 0
        have z1 := blk_cell HNf.out 1
        have z2 := blk_cell HNf.out 2
        have z3 := blk_cell HNf.out 3
        simp at z0 z1 z2 z3
        clear hwf
        refine bodyPost_ret (by simp [results, Tryd.results55, go_sem, z0, z1, z2, z3]; try rfl) rfl ?_
        rw [← HT'.out]
        exact PostP.ok HKf.out HRf.out (PathAt.mono (fun g hg _ => by omega) _ (HPf.out _ _ _ (fun g hg => by omega) (HKn.out.path (fun g hg => by omega) HPA.out)))
    · have CN := Aside0.mk (is_err b s j a 124 er wv hR he (by decide))
      simp only [Int.cast_ofNat_Int] at CN
      have HT' := Aside0.mk hT'
      clear hT' hR
      go_wp2_with (go_at_call 90; (with_reducible refine CN.out.mono ?_); rintro e w2 ⟨rfl, hr, hk⟩; have HR2 := Aside0.mk hr; have HK2 := Aside0.mk (HK.out.trans hk); have HKn := Aside0.mk hk; have HPw := Aside0.mk (hk.blk HPv.out (by omega)); have HQw := Aside0.mk (hk.blk HQv.out (by omega)); have hz2 := hk.size; obtain ⟨c0, c1, c2, c3, f1, f2, f3⟩ := hr.cells; have q0 := blk_cell HPw.out 0; have q1 := blk_cell HPw.out 1; have q2 := blk_cell HPw.out 2; have q3 := blk_cell HPw.out 3; simp at q0 q1 q2 q3; have k0 := blk_frozen HPw.out 0; have k1 := blk_frozen HPw.out 1; have k2 := blk_frozen HPw.out 2; have k3 := blk_frozen HPw.out 3; have m0 := blk_cell HQw.out 0; have m1 := blk_cell HQw.out 1; have m2 := blk_cell HQw.out 2; have m3 := blk_cell HQw.out 3; simp at m0 m1 m2 m3; have l0 := blk_frozen HQw.out 0; have l1 := blk_frozen HQw.out 1; have l2 := blk_frozen HQw.out 2; have l3 := blk_frozen HQw.out 3; clear hr hk)
      obtain ⟨wf, hwf, HRf, HKf, HNf, HPf, HGf, HSf⟩ := fin4 HR2.out HK2.out hbl (Nat.le_refl _) HPw.out (.int .i64 k) (.string t) ((.slice A n c)) ((.slice B m d1))
      rw [← hwf]
      have z0 := blk_cell HNf.out 0
      have z1 := blk_cell HNf.out 1
      have z2 := blk_cell HNf.out 2
      have z3 := blk_cell HNf.out 3
      simp at z0 z1 z2 z3
      clear hwf
      refine bodyPost_ret (by simp [results, Tryd.results55, go_sem, z0, z1, z2, z3]; try rfl) rfl ?_
      rw [HT'.out]
      exact PostP.no HKf.out he HRf.out
end Go.Proofs.YtbaegfjoionojaaDoor.Qy
