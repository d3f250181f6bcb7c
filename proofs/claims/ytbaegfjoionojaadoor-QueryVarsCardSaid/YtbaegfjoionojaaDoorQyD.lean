/- The walk of the program's reader: not. -/
import Derived.Test.YtbaegfjoionojaaDoorQyC
import Derived.Deep.RegionHeld3
set_option linter.unusedSimpArgs false
set_option linter.unusedVariables false
namespace Go.Proofs.YtbaegfjoionojaaDoor.Qy
open Go Go.RowKit Go.Proofs.YtbaegfjoionojaaDoor.Tm Go.Proofs.YtbaegfjoionojaaDoorW.PrintWords

theorem info_str : (Tryd.prog.info? 9).map (fun i => (i.zero, i.size, i.bytes)) = some (some (.string ⟨#[]⟩), 1, 16) := by kernel_rfl
/-- A reader's error. -/
def erOf (w : World) (b : Nat) : Int := match w.cell? ⟨b, 2, none⟩ with
  | some (.int _ n) => n
  | _ => 0
theorem Rq.erOf {w : World} {b : Nat} {s : ByteArray} {i : Nat} {e : Int} {o : Nat} (h : Rq w b s i e o) : erOf w b = e := by
  unfold Qy.erOf
  rw [h.cells.2.2.1]
/-- How much a reader may still do. -/
def mOf (w : World) (b n : Nat) : Nat := if erOf w b = 0 then n - atOf w b + 1 else 0
theorem mOf_ok {w : World} {b : Nat} {s : ByteArray} {i o : Nat} (h : Rq w b s i 0 o) : mOf w b s.size = s.size - i + 1 := by
  unfold mOf; rw [h.erOf, if_pos rfl, h.atOf]
theorem mOf_err {w : World} {b : Nat} {s : ByteArray} {i o : Nat} {er : Int} (h : Rq w b s i er o) (he : er ≠ 0) : mOf w b s.size = 0 := by
  unfold mOf; rw [h.erOf, if_neg he]
def negR (r : Res (List ByteArray)) : Res Pth := match r with
  | .ok ts j => .ok (.mk 8 ⟨#[]⟩ ts []) j
  | .no e a => .no e a
def oneR (r : Res ByteArray) : Res (List ByteArray) := match r with
  | .ok t j => .ok [t] j
  | .no e a => .no e a
def moreR (s : ByteArray) (r : Res ByteArray) : Res (List ByteArray) := match r with
  | .ok t j => textsS s (s.size + 1) [t] j
  | .no e a => .no e a
/-- The negation that is being read. -/
def NotI (w0 wr : World) (b : Nat) (s : ByteArray) (TOT : Res (List ByteArray)) : Prop :=
  ∃ ts v, wr.heap[w0.heap.size + 1]? = some (.cells #[.int .i64 8, .string ⟨#[]⟩, v, .slice none 0 0] 25 (0, 0)) ∧ wr.heap[w0.heap.size]? = some (.cells #[.int .i64 0, .string ⟨#[]⟩, .slice none 0 0, .slice none 0 0] 25 (0, 0)) ∧ Kd.string.R 9 wr (w0.heap.size + 2) (fun _ => True) v ts ∧ Kb b w0 wr ∧
    ((∃ f i, Rq wr b s i 0 0 ∧ i ≤ s.size ∧ ts.length ≤ i ∧ s.size - i < f ∧ textsS s f ts i = TOT) ∨ (∃ i er a, er ≠ 0 ∧ Rq wr b s i er a ∧ TOT = .no er a))
/-- The negation behind its row's end: what is stored. -/
theorem not_end {w w1 : World} {b : Nat} {s : ByteArray} {v : Value} {ts : List ByteArray} (hk : Kb b w w1) (hv : Kd.string.R 9 w1 (w.heap.size + 2) (fun _ => True) v ts) :
    ∃ A c, v = .slice A ts.length c ∧ PathAt w1 (fun g => w.heap.size + 2 ≤ g) (.mk 8 ⟨#[]⟩ ts []) [.int .i64 8, .string ⟨#[]⟩, v, .slice none 0 0] := by
  obtain ⟨A, c, rfl, hl, ht⟩ := ts_of_R hv
  refine ⟨A, c, rfl, ?_⟩
  unfold PathAt
  exact ⟨A, c, none, 0, rfl, hl, by simp, by simp, ht, by unfold KidsAt; trivial⟩
/-- The first text, laid and stored. -/
theorem st1 {w w3 : World} {b : Nat} {s : ByteArray} {u : Value} (t : ByteArray) (hK : Kb b w w3) (hb : b < w.heap.size) (h1 : w3.heap[w.heap.size + 1]? = some (.cells #[.int .i64 8, .string ⟨#[]⟩, u, .slice none 0 0] 25 (0, 0))) (h0 : w3.heap[w.heap.size]? = some (.cells #[.int .i64 0, .string ⟨#[]⟩, .slice none 0 0, .slice none 0 0] 25 (0, 0))) :
    ∃ w5, w5 = (w3.setCell ⟨w.heap.size + 1, 2, none⟩ (.slice (some ⟨w3.heap.size, 0, none⟩) 1 1)).alloc (.cells #[.string t] 9) ∧ Aside0 (w5.heap[w.heap.size + 1]? = some (.cells #[.int .i64 8, .string ⟨#[]⟩, .slice (some ⟨w3.heap.size, 0, none⟩) 1 1, .slice none 0 0] 25 (0, 0))) ∧ Aside0 (w5.heap[w.heap.size]? = some (.cells #[.int .i64 0, .string ⟨#[]⟩, .slice none 0 0, .slice none 0 0] 25 (0, 0))) ∧
      Aside0 (Kd.string.R 9 w5 (w.heap.size + 2) (fun _ => True) (.slice (some ⟨w3.heap.size, 0, none⟩) 1 1) [t]) ∧ Aside0 (Kb b w w5) ∧ Aside0 (∀ (i : Nat) (er : Int) (o : Nat), Rq w3 b s i er o → Rq w5 b s i er o) := by
  have hz := blk_lt h1
  obtain ⟨w4, hw4⟩ : ∃ w4, w4 = w3.setCell ⟨w.heap.size + 1, 2, none⟩ (.slice (some ⟨w3.heap.size, 0, none⟩) 1 1) := ⟨_, rfl⟩
  have hs4 : w4.heap.size = w3.heap.size := by rw [hw4]; simp [World.setCell]
  have hK4 : Kb b w w4 := by rw [hw4]; exact hK.far hb (p := ⟨w.heap.size + 1, 2, none⟩) (by show w.heap.size ≤ w.heap.size + 1; omega) _
  have h14 : w4.heap[w.heap.size + 1]? = some (.cells #[.int .i64 8, .string ⟨#[]⟩, .slice (some ⟨w3.heap.size, 0, none⟩) 1 1, .slice none 0 0] 25 (0, 0)) := by rw [hw4]; exact (blk_set h1 2 _).trans rfl
  have h04 : w4.heap[w.heap.size]? = some (.cells #[.int .i64 0, .string ⟨#[]⟩, .slice none 0 0, .slice none 0 0] 25 (0, 0)) := by rw [hw4]; exact blk_far (p := ⟨w.heap.size + 1, 2, none⟩) h0 (by show w.heap.size ≠ w.heap.size + 1; omega) _
  have hR4 : ∀ (i : Nat) (er : Int) (o : Nat), Rq w3 b s i er o → Rq w4 b s i er o := fun i er o h => by rw [hw4]; exact h.far (p := ⟨w.heap.size + 1, 2, none⟩) (by show b ≠ w.heap.size + 1; omega) _
  rw [← hw4]
  refine ⟨_, rfl, ⟨blk_alloc h14 _⟩, ⟨blk_alloc h04 _⟩, ⟨by rw [← hs4]; exact lit_Rs w4 (w.heap.size + 2) t (by omega)⟩, ⟨hK4.trans (Kb.of (below_alloc (Below.refl _ _) _) (by omega))⟩, ⟨fun i er o h => (hR4 i er o h).below (below_alloc (Below.refl _ _) _)⟩⟩
set_option maxRecDepth 100000 in
set_option maxHeartbeats 8000000 in
theorem not_b1 (b : Nat) (s : ByteArray) (i : Nat) (w0 w : World) (hR : Rq w b s i 0 0) (hs : s.size ≤ 50000) (hi : i ≤ s.size) (hT : Tabs w0) (hB : Below w0.heap.size w0 w) (hb : w0.heap.size ≤ b) (hc : s.size ≤ i) :
    Calls Tryd.prog 165 #[.pointer (some ⟨b, 0, none⟩)] w (PostP b s w (negR (notS s i))) := by
  have hbl := blk_lt hR
  have hs3 : (s.size : Int) ≤ 50000 := by omega
  obtain ⟨wa, hwa, HKa, HBa, HNa, HZa⟩ := res4 w hbl
  obtain ⟨wc, hwc, HC⟩ : ∃ wc, wc = wa.alloc (.cells #[.int .i64 8, .string ⟨#[]⟩, .slice none 0 0, .slice none 0 0] 25) ∧ Aside0 (Below wa.heap.size wa wc) := ⟨_, rfl, ⟨below_alloc (Below.refl _ _) _⟩⟩
  have HKc : Aside0 (Kb b w wc) := ⟨HKa.out.trans (Kb.of HC.out (by have := HZa.out; omega))⟩
  have HRc : Aside0 (Rq wc b s i 0 0) := ⟨(hR.below HBa.out).below HC.out⟩
  have HN0 : Aside0 (wc.heap[w.heap.size]? = some (.cells #[.int .i64 0, .string ⟨#[]⟩, .slice none 0 0, .slice none 0 0] 25 (0, 0))) := ⟨blk_below HNa.out HC.out⟩
  have HN1 : Aside0 (wc.heap[w.heap.size + 1]? = some (.cells #[.int .i64 8, .string ⟨#[]⟩, .slice none 0 0, .slice none 0 0] 25 (0, 0))) := ⟨by rw [hwc, ← HZa.out]; exact heap_alloc_new _ _⟩
  have HHW : Aside0 ((w.alloc (.cells #[.int .i64 0, .string ⟨#[]⟩, .slice none 0 0, .slice none 0 0] 25)).alloc (.cells #[.int .i64 8, .string ⟨#[]⟩, .slice none 0 0, .slice none 0 0] 25) = wc) := ⟨by rw [hwc, hwa]⟩
  clear hR hwa hwc
  have hns : notS s i = oneR (iriS s i) := by unfold notS oneR; rw [if_neg (fun h => by omega)]; cases iriS s i <;> rfl
  obtain ⟨r, hr⟩ : ∃ r, iriS s i = r := ⟨_, rfl⟩
  rw [hr] at hns
  rw [hns]
  have g1 : (s.size : Int) ≤ (i : Int) := by omega
  clear hns
  go_enter Tryd.func165, Tryd.ntmps165
  go_upto_region 2 with (fail)
  rw [HHW.out]
  obtain ⟨c0, c1, c2, c3, f1, f2, f3⟩ := HRc.out.cells
  go_quiet (fail)
  have HRd : Aside0 (Rq (wc.drewN nq) b s i 0 0) := ⟨HRc.out⟩
  have HKd : Aside0 (Kb b w (wc.drewN nq)) := ⟨HKc.out.trans (Kb.drewN _ _)⟩
  have HN0d : Aside0 ((wc.drewN nq).heap[w.heap.size]? = some (.cells #[.int .i64 0, .string ⟨#[]⟩, .slice none 0 0, .slice none 0 0] 25 (0, 0))) := ⟨HN0.out⟩
  have HN1d : Aside0 ((wc.drewN nq).heap[w.heap.size + 1]? = some (.cells #[.int .i64 8, .string ⟨#[]⟩, .slice none 0 0, .slice none 0 0] 25 (0, 0))) := ⟨HN1.out⟩
  generalize wc.drewN nq = wd at HRd HKd HN0d HN1d ⊢
  clear c0 c1 c2 c3 f1 f2 f3
  have CI := Aside0.mk (iri_res b s i 0 w0 wd HRd.out hs hi hT (hB.trans (HKd.out.1.mono hb)) hb)
  rw [hr] at CI
  clear hr
  go_upto_region 4 with (go_at_call 164; (with_reducible refine CI.out.mono ?_); rintro e w3 ⟨t, rfl, hk, hok, hno⟩; have HK3 := Aside0.mk hk; have HOK3 := Aside0.mk hok; have HNO3 := Aside0.mk hno; have HP3 := Aside0.mk (hk.blk HN1d.out (by omega)); have HP0 := Aside0.mk (hk.blk HN0d.out (by omega)); have q0 := blk_cell HP3.out 0; have q1 := blk_cell HP3.out 1; have q2 := blk_cell HP3.out 2; have q3 := blk_cell HP3.out 3; simp at q0 q1 q2 q3; have k0 := blk_frozen HP3.out 0; have k1 := blk_frozen HP3.out 1; have k2 := blk_frozen HP3.out 2; have k3 := blk_frozen HP3.out 3; have hz3 := blk_lt HP3.out; have hz4 : ¬ (w.heap.size + 1 = w3.heap.size) := (by omega); have hz5 : ¬ (w3.heap.size = w.heap.size + 1) := (by omega); clear hk hok hno)
  obtain ⟨w5, hw5, HP5, HP05, HV5, HK5, HRR⟩ := st1 (s := s) t (HKd.out.trans HK3.out) hbl HP3.out HP0.out
  rw [← hw5]
  clear hw5 q0 q1 q2 q3 k0 k1 k2 k3
  have q0 := blk_cell HP5.out 0; have q1 := blk_cell HP5.out 1; have q2 := blk_cell HP5.out 2; have q3 := blk_cell HP5.out 3; simp at q0 q1 q2 q3; have k0 := blk_frozen HP5.out 0; have k1 := blk_frozen HP5.out 1; have k2 := blk_frozen HP5.out 2; have k3 := blk_frozen HP5.out 3
  have m0 := blk_cell HP05.out 0; have m1 := blk_cell HP05.out 1; have m2 := blk_cell HP05.out 2; have m3 := blk_cell HP05.out 3; simp at m0 m1 m2 m3; have l0 := blk_frozen HP05.out 0; have l1 := blk_frozen HP05.out 1; have l2 := blk_frozen HP05.out 2; have l3 := blk_frozen HP05.out 3
  go_wp2_with fail
  have HKe := HK5
  have HPz := HP05
  cases r with
  | ok t' j =>
    obtain ⟨rfl, hr3⟩ := HOK3.out t' j rfl
    have HRe := Aside0.mk (HRR.out _ _ _ hr3)
    obtain ⟨A, c, hv, hp⟩ := not_end (s := s) HK5.out HV5.out
    have HPA := Aside0.mk hp
    clear hp hv
    obtain ⟨wf, hwf, HRf, HKf, HNf, HPf, HGf, HSf⟩ := fin4 HRe.out HKe.out hbl (Nat.le_refl _) HPz.out (.int .i64 8) (.string ⟨#[]⟩) (.slice (some ⟨w3.heap.size, 0, none⟩) 1 1) (.slice none 0 0)
    rw [← hwf]
    have z0 := blk_cell HNf.out 0
    have z1 := blk_cell HNf.out 1
    have z2 := blk_cell HNf.out 2
    have z3 := blk_cell HNf.out 3
    simp at z0 z1 z2 z3
    clear hwf
    refine bodyPost_ret (by simp [results, Tryd.results165, go_sem, z0, z1, z2, z3]; try rfl) rfl ?_
    exact PostP.ok HKf.out HRf.out (PathAt.mono (fun g hg _ => by omega) _ (HPf.out _ _ _ (fun g hg => by omega) HPA.out))
  | no er a =>
    obtain ⟨he, i3, hr3⟩ := HNO3.out er a rfl
    have HRe := Aside0.mk (HRR.out _ _ _ hr3)
    obtain ⟨wf, hwf, HRf, HKf, HNf, HPf, HGf, HSf⟩ := fin4 HRe.out HKe.out hbl (Nat.le_refl _) HPz.out (.int .i64 8) (.string ⟨#[]⟩) (.slice (some ⟨w3.heap.size, 0, none⟩) 1 1) (.slice none 0 0)
    rw [← hwf]
    have z0 := blk_cell HNf.out 0
    have z1 := blk_cell HNf.out 1
    have z2 := blk_cell HNf.out 2
    have z3 := blk_cell HNf.out 3
    simp at z0 z1 z2 z3
    clear hwf
    refine bodyPost_ret (by simp [results, Tryd.results165, go_sem, z0, z1, z2, z3]; try rfl) rfl ?_
    exact PostP.no HKf.out he HRf.out
set_option maxRecDepth 100000 in
set_option maxHeartbeats 8000000 in
theorem not_b2 (b : Nat) (s : ByteArray) (i : Nat) (w0 w : World) (hR : Rq w b s i 0 0) (hs : s.size ≤ 50000) (hi : i ≤ s.size) (hT : Tabs w0) (hB : Below w0.heap.size w0 w) (hb : w0.heap.size ≤ b) (hc : i < s.size) (hx : byteAt s i ≠ 40) :
    Calls Tryd.prog 165 #[.pointer (some ⟨b, 0, none⟩)] w (PostP b s w (negR (notS s i))) := by
  have hbl := blk_lt hR
  have hs3 : (s.size : Int) ≤ 50000 := by omega
  obtain ⟨wa, hwa, HKa, HBa, HNa, HZa⟩ := res4 w hbl
  obtain ⟨wc, hwc, HC⟩ : ∃ wc, wc = wa.alloc (.cells #[.int .i64 8, .string ⟨#[]⟩, .slice none 0 0, .slice none 0 0] 25) ∧ Aside0 (Below wa.heap.size wa wc) := ⟨_, rfl, ⟨below_alloc (Below.refl _ _) _⟩⟩
  have HKc : Aside0 (Kb b w wc) := ⟨HKa.out.trans (Kb.of HC.out (by have := HZa.out; omega))⟩
  have HRc : Aside0 (Rq wc b s i 0 0) := ⟨(hR.below HBa.out).below HC.out⟩
  have HN0 : Aside0 (wc.heap[w.heap.size]? = some (.cells #[.int .i64 0, .string ⟨#[]⟩, .slice none 0 0, .slice none 0 0] 25 (0, 0))) := ⟨blk_below HNa.out HC.out⟩
  have HN1 : Aside0 (wc.heap[w.heap.size + 1]? = some (.cells #[.int .i64 8, .string ⟨#[]⟩, .slice none 0 0, .slice none 0 0] 25 (0, 0))) := ⟨by rw [hwc, ← HZa.out]; exact heap_alloc_new _ _⟩
  have HHW : Aside0 ((w.alloc (.cells #[.int .i64 0, .string ⟨#[]⟩, .slice none 0 0, .slice none 0 0] 25)).alloc (.cells #[.int .i64 8, .string ⟨#[]⟩, .slice none 0 0, .slice none 0 0] 25) = wc) := ⟨by rw [hwc, hwa]⟩
  clear hR hwa hwc
  have hns : notS s i = oneR (iriS s i) := by unfold notS oneR; rw [if_neg (fun h => hx h.2)]; cases iriS s i <;> rfl
  obtain ⟨r, hr⟩ : ∃ r, iriS s i = r := ⟨_, rfl⟩
  rw [hr] at hns
  rw [hns]
  have g1 : (i : Int) < (s.size : Int) := by omega
  have g0 : (0 : Int) ≤ (i : Int) := by omega
  obtain ⟨x, hxe⟩ : ∃ x, byteAt s i = x := ⟨_, rfl⟩
  have hxb := get_byte s i hc
  rw [hxe] at hx hxb
  have hne : ((x : Int) != 40) = true := by rw [bne_iff_ne]; omega
  clear hx hxe
  clear hns
  go_enter Tryd.func165, Tryd.ntmps165
  go_upto_region 2 with (fail)
  rw [HHW.out]
  obtain ⟨c0, c1, c2, c3, f1, f2, f3⟩ := HRc.out.cells
  go_quiet (fail)
  have HRd : Aside0 (Rq (wc.drewN nq) b s i 0 0) := ⟨HRc.out⟩
  have HKd : Aside0 (Kb b w (wc.drewN nq)) := ⟨HKc.out.trans (Kb.drewN _ _)⟩
  have HN0d : Aside0 ((wc.drewN nq).heap[w.heap.size]? = some (.cells #[.int .i64 0, .string ⟨#[]⟩, .slice none 0 0, .slice none 0 0] 25 (0, 0))) := ⟨HN0.out⟩
  have HN1d : Aside0 ((wc.drewN nq).heap[w.heap.size + 1]? = some (.cells #[.int .i64 8, .string ⟨#[]⟩, .slice none 0 0, .slice none 0 0] 25 (0, 0))) := ⟨HN1.out⟩
  generalize wc.drewN nq = wd at HRd HKd HN0d HN1d ⊢
  clear c0 c1 c2 c3 f1 f2 f3
  have CI := Aside0.mk (iri_res b s i 0 w0 wd HRd.out hs hi hT (hB.trans (HKd.out.1.mono hb)) hb)
  rw [hr] at CI
  clear hr
  go_upto_region 4 with (go_at_call 164; (with_reducible refine CI.out.mono ?_); rintro e w3 ⟨t, rfl, hk, hok, hno⟩; have HK3 := Aside0.mk hk; have HOK3 := Aside0.mk hok; have HNO3 := Aside0.mk hno; have HP3 := Aside0.mk (hk.blk HN1d.out (by omega)); have HP0 := Aside0.mk (hk.blk HN0d.out (by omega)); have q0 := blk_cell HP3.out 0; have q1 := blk_cell HP3.out 1; have q2 := blk_cell HP3.out 2; have q3 := blk_cell HP3.out 3; simp at q0 q1 q2 q3; have k0 := blk_frozen HP3.out 0; have k1 := blk_frozen HP3.out 1; have k2 := blk_frozen HP3.out 2; have k3 := blk_frozen HP3.out 3; have hz3 := blk_lt HP3.out; have hz4 : ¬ (w.heap.size + 1 = w3.heap.size) := (by omega); have hz5 : ¬ (w3.heap.size = w.heap.size + 1) := (by omega); clear hk hok hno)
  obtain ⟨w5, hw5, HP5, HP05, HV5, HK5, HRR⟩ := st1 (s := s) t (HKd.out.trans HK3.out) hbl HP3.out HP0.out
  rw [← hw5]
  clear hw5 q0 q1 q2 q3 k0 k1 k2 k3
  have q0 := blk_cell HP5.out 0; have q1 := blk_cell HP5.out 1; have q2 := blk_cell HP5.out 2; have q3 := blk_cell HP5.out 3; simp at q0 q1 q2 q3; have k0 := blk_frozen HP5.out 0; have k1 := blk_frozen HP5.out 1; have k2 := blk_frozen HP5.out 2; have k3 := blk_frozen HP5.out 3
  have m0 := blk_cell HP05.out 0; have m1 := blk_cell HP05.out 1; have m2 := blk_cell HP05.out 2; have m3 := blk_cell HP05.out 3; simp at m0 m1 m2 m3; have l0 := blk_frozen HP05.out 0; have l1 := blk_frozen HP05.out 1; have l2 := blk_frozen HP05.out 2; have l3 := blk_frozen HP05.out 3
  go_wp2_with fail
  have HKe := HK5
  have HPz := HP05
  cases r with
  | ok t' j =>
    obtain ⟨rfl, hr3⟩ := HOK3.out t' j rfl
    have HRe := Aside0.mk (HRR.out _ _ _ hr3)
    obtain ⟨A, c, hv, hp⟩ := not_end (s := s) HK5.out HV5.out
    have HPA := Aside0.mk hp
    clear hp hv
    obtain ⟨wf, hwf, HRf, HKf, HNf, HPf, HGf, HSf⟩ := fin4 HRe.out HKe.out hbl (Nat.le_refl _) HPz.out (.int .i64 8) (.string ⟨#[]⟩) (.slice (some ⟨w3.heap.size, 0, none⟩) 1 1) (.slice none 0 0)
    rw [← hwf]
    have z0 := blk_cell HNf.out 0
    have z1 := blk_cell HNf.out 1
    have z2 := blk_cell HNf.out 2
    have z3 := blk_cell HNf.out 3
    simp at z0 z1 z2 z3
    clear hwf
    refine bodyPost_ret (by simp [results, Tryd.results165, go_sem, z0, z1, z2, z3]; try rfl) rfl ?_
    exact PostP.ok HKf.out HRf.out (PathAt.mono (fun g hg _ => by omega) _ (HPf.out _ _ _ (fun g hg => by omega) HPA.out))
  | no er a =>
    obtain ⟨he, i3, hr3⟩ := HNO3.out er a rfl
    have HRe := Aside0.mk (HRR.out _ _ _ hr3)
    obtain ⟨wf, hwf, HRf, HKf, HNf, HPf, HGf, HSf⟩ := fin4 HRe.out HKe.out hbl (Nat.le_refl _) HPz.out (.int .i64 8) (.string ⟨#[]⟩) (.slice (some ⟨w3.heap.size, 0, none⟩) 1 1) (.slice none 0 0)
    rw [← hwf]
    have z0 := blk_cell HNf.out 0
    have z1 := blk_cell HNf.out 1
    have z2 := blk_cell HNf.out 2
    have z3 := blk_cell HNf.out 3
    simp at z0 z1 z2 z3
    clear hwf
    refine bodyPost_ret (by simp [results, Tryd.results165, go_sem, z0, z1, z2, z3]; try rfl) rfl ?_
    exact PostP.no HKf.out he HRf.out
def textR (s : ByteArray) (f : Nat) (ts : List ByteArray) (r : Res ByteArray) : Res (List ByteArray) := match r with
  | .ok t j => textsS s f (ts ++ [t]) j
  | .no e a => .no e a
theorem texts_bar {s : ByteArray} {f : Nat} {ts : List ByteArray} {i : Nat} (h : nx s i = 124) : textsS s (f + 1) ts i = textR s f ts (iriS s (skip s i + 1)) := by
  unfold textR
  show (if nx s i = 124 then _ else _) = _
  rw [if_pos h]
  cases iriS s (skip s i + 1) <;> rfl
theorem texts_end {s : ByteArray} {f : Nat} {ts : List ByteArray} {i : Nat} (h : nx s i = 41) : textsS s (f + 1) ts i = .ok ts (skip s i + 1) := by
  show (if nx s i = 124 then _ else _) = _
  rw [if_neg (by omega), if_pos h]
theorem texts_no {s : ByteArray} {f : Nat} {ts : List ByteArray} {i : Nat} (h : nx s i ≠ 124) (h2 : nx s i ≠ 41) : textsS s (f + 1) ts i = .no 2 (skip s i) := by
  show (if nx s i = 124 then _ else _) = _
  rw [if_neg h, if_neg h2]
set_option maxRecDepth 100000 in
set_option maxHeartbeats 8000000 in
theorem not_a (b : Nat) (s : ByteArray) (i : Nat) (w0 w : World) (hR : Rq w b s i 0 0) (hs : s.size ≤ 50000) (hi : i ≤ s.size) (hT : Tabs w0) (hB : Below w0.heap.size w0 w) (hb : w0.heap.size ≤ b) (hc : i < s.size) (hx : byteAt s i = 40) :
    Calls Tryd.prog 165 #[.pointer (some ⟨b, 0, none⟩)] w (PostP b s w (negR (notS s i))) := by
  have hbl := blk_lt hR
  have hs3 : (s.size : Int) ≤ 50000 := by omega
  obtain ⟨wa, hwa, HKa, HBa, HNa, HZa⟩ := res4 w hbl
  obtain ⟨wc, hwc, HC⟩ : ∃ wc, wc = wa.alloc (.cells #[.int .i64 8, .string ⟨#[]⟩, .slice none 0 0, .slice none 0 0] 25) ∧ Aside0 (Below wa.heap.size wa wc) := ⟨_, rfl, ⟨below_alloc (Below.refl _ _) _⟩⟩
  have HKc : Aside0 (Kb b w wc) := ⟨HKa.out.trans (Kb.of HC.out (by have := HZa.out; omega))⟩
  have HRc : Aside0 (Rq wc b s i 0 0) := ⟨(hR.below HBa.out).below HC.out⟩
  have HN0 : Aside0 (wc.heap[w.heap.size]? = some (.cells #[.int .i64 0, .string ⟨#[]⟩, .slice none 0 0, .slice none 0 0] 25 (0, 0))) := ⟨blk_below HNa.out HC.out⟩
  have HN1 : Aside0 (wc.heap[w.heap.size + 1]? = some (.cells #[.int .i64 8, .string ⟨#[]⟩, .slice none 0 0, .slice none 0 0] 25 (0, 0))) := ⟨by rw [hwc, ← HZa.out]; exact heap_alloc_new _ _⟩
  have HHW : Aside0 ((w.alloc (.cells #[.int .i64 0, .string ⟨#[]⟩, .slice none 0 0, .slice none 0 0] 25)).alloc (.cells #[.int .i64 8, .string ⟨#[]⟩, .slice none 0 0, .slice none 0 0] 25) = wc) := ⟨by rw [hwc, hwa]⟩
  clear hR hwa hwc
  have hns : notS s i = moreR s (iriS s (i + 1)) := by unfold notS moreR; rw [if_pos ⟨hc, hx⟩]; cases iriS s (i + 1) <;> rfl
  obtain ⟨r, hr⟩ : ∃ r, iriS s (i + 1) = r := ⟨_, rfl⟩
  rw [hr] at hns
  obtain ⟨TOT, hTOT⟩ : ∃ T, notS s i = T := ⟨_, rfl⟩
  rw [hTOT] at hns ⊢
  have HTOT := Aside0.mk hns
  have HAdv := Aside0.mk (hr ▸ iri_adv s (i + 1))
  have g1 : (i : Int) < (s.size : Int) := by omega
  have g0 : (0 : Int) ≤ (i : Int) := by omega
  have hxb := get_byte s i hc
  rw [hx] at hxb
  clear hns hTOT hx
  go_enter Tryd.func165, Tryd.ntmps165
  go_upto_region 2 with (fail)
  rw [HHW.out]
  obtain ⟨c0, c1, c2, c3, f1, f2, f3⟩ := HRc.out.cells
  go_quiet (fail)
  have HRd : Aside0 (Rq (wc.drewN nq) b s i 0 0) := ⟨HRc.out⟩
  have HKd : Aside0 (Kb b w (wc.drewN nq)) := ⟨HKc.out.trans (Kb.drewN _ _)⟩
  have HN0d : Aside0 ((wc.drewN nq).heap[w.heap.size]? = some (.cells #[.int .i64 0, .string ⟨#[]⟩, .slice none 0 0, .slice none 0 0] 25 (0, 0))) := ⟨HN0.out⟩
  have HN1d : Aside0 ((wc.drewN nq).heap[w.heap.size + 1]? = some (.cells #[.int .i64 8, .string ⟨#[]⟩, .slice none 0 0, .slice none 0 0] 25 (0, 0))) := ⟨HN1.out⟩
  generalize wc.drewN nq = wd at HRd HKd HN0d HN1d ⊢
  clear c0 c1 c2 c3 f1 f2 f3
  obtain ⟨c0, c1, c2, c3, f1, f2, f3⟩ := HRd.out.cells
  go_upto_region 6 with (fail)
  obtain ⟨we, hwe⟩ : ∃ we, we = wd.setCell ⟨b, 1, none⟩ (.int .i64 ((i : Int) + 1)) := ⟨_, rfl⟩
  rw [← hwe]
  have HRe : Aside0 (Rq we b s (i + 1) 0 0) := ⟨by rw [hwe]; exact Rq.to HRd.out (i + 1) _ (by simp)⟩
  have HKe : Aside0 (Kb b w we) := ⟨by rw [hwe]; exact HKd.out.trans (Kb.set _ _ _)⟩
  have HN0e : Aside0 (we.heap[w.heap.size]? = some (.cells #[.int .i64 0, .string ⟨#[]⟩, .slice none 0 0, .slice none 0 0] 25 (0, 0))) := ⟨by rw [hwe]; exact blk_far (p := ⟨b, 1, none⟩) HN0d.out (by show w.heap.size ≠ b; omega) _⟩
  have HN1e : Aside0 (we.heap[w.heap.size + 1]? = some (.cells #[.int .i64 8, .string ⟨#[]⟩, .slice none 0 0, .slice none 0 0] 25 (0, 0))) := ⟨by rw [hwe]; exact blk_far (p := ⟨b, 1, none⟩) HN1d.out (by show w.heap.size + 1 ≠ b; omega) _⟩
  clear hwe c0 c1 c2 c3 f1 f2 f3 hxb
  have CI := Aside0.mk (iri_res b s (i + 1) 0 w0 we HRe.out hs (by omega) hT (hB.trans (HKe.out.1.mono hb)) hb)
  rw [hr] at CI
  clear hr
  go_wp2_with (go_at_call 164; (with_reducible refine CI.out.mono ?_); rintro e w3 ⟨t, rfl, hk, hok, hno⟩; have HK3 := Aside0.mk hk; have HOK3 := Aside0.mk hok; have HNO3 := Aside0.mk hno; have HP3 := Aside0.mk (hk.blk HN1e.out (by omega)); have HP0 := Aside0.mk (hk.blk HN0e.out (by omega)); have q0 := blk_cell HP3.out 0; have q1 := blk_cell HP3.out 1; have q2 := blk_cell HP3.out 2; have q3 := blk_cell HP3.out 3; simp at q0 q1 q2 q3; have k0 := blk_frozen HP3.out 0; have k1 := blk_frozen HP3.out 1; have k2 := blk_frozen HP3.out 2; have k3 := blk_frozen HP3.out 3; have hz3 := blk_lt HP3.out; have hz4 : ¬ (w.heap.size + 1 = w3.heap.size) := (by omega); have hz5 : ¬ (w3.heap.size = w.heap.size + 1) := (by omega); clear hk hok hno)
  obtain ⟨w5, hw5, HP5, HP05, HV5, HK5, HRR⟩ := st1 (s := s) t (HKe.out.trans HK3.out) hbl HP3.out HP0.out
  rw [← hw5]
  clear hw5 q0 q1 q2 q3 k0 k1 k2 k3
  have HI : Aside0 (NotI w w5 b s TOT) := ⟨by
    refine ⟨[t], _, HP5.out, HP05.out, HV5.out, HK5.out, ?_⟩
    have hT := HTOT.out
    cases r with
    | ok t' j =>
      obtain ⟨rfl, hr3⟩ := HOK3.out t' j rfl
      have ha := HAdv.out t j rfl
      exact .inl ⟨s.size + 1, j, HRR.out _ _ _ hr3, ha.2, by simp; omega, by omega, hT.symm⟩
    | no er a =>
      obtain ⟨he, i3, hr3⟩ := HNO3.out er a rfl
      exact .inr ⟨i3, er, a, he, HRR.out _ _ _ hr3, hT⟩⟩
  clear HTOT HOK3 HNO3 HAdv HP5 HP05 HV5 HK5 HRR HK3 HP3 HP0 HRe HKe HN0e HN1e CI hz3 hz4 hz5
  go_loopw [44] (fun x wr => Aside0 (NotI w wr b s TOT)) (fun x wr => mOf wr b s.size)
  case atStart => exact HI
  case round =>
    clear HI
    obtain ⟨wv, rfl⟩ : ∃ x, x = wr := ⟨wr, rfl⟩
    obtain ⟨ts, v, hP, hP0, hV, hK, hcase⟩ := hrel.out
    obtain ⟨A, c, hv⟩ := Kd.R_slice hV
    subst hv
    have HP := Aside0.mk hP
    have HP0 := Aside0.mk hP0
    have HV := Aside0.mk hV
    have HK := Aside0.mk hK
    have hwz : w.heap.size + 1 < wv.heap.size := blk_lt hP
    clear hP hP0 hV hK hrel
    rcases hcase with ⟨f, j, hR, hj, htl, hf, hT'⟩ | ⟨j, er, a, he, hR, hT'⟩
    · obtain ⟨f, rfl⟩ : ∃ g, f = g + 1 := ⟨f - 1, by omega⟩
      have HM := Aside0.mk (mOf_ok hR)
      by_cases h124 : nx s j = 124
      · rw [texts_bar h124] at hT'
        have hsk := nx_adv (s := s) (i := j) (by omega)
        obtain ⟨r, hr⟩ : ∃ r, iriS s (skip s j + 1) = r := ⟨_, rfl⟩
        have HAdv := Aside0.mk (hr ▸ iri_adv s (skip s j + 1))
        rw [hr] at hT'
        have HT' := Aside0.mk hT'
        have CN := Aside0.mk (is_yes b s j 0 124 0 wv hR hs hj h124 (by decide))
        simp only [Int.cast_ofNat_Int] at CN
        have CI := Aside0.mk (fun W (hR : Rq W b s (skip s j + 1) 0 0) (hB : Below w0.heap.size w0 W) => iri_res b s (skip s j + 1) 0 w0 W hR hs hsk.2 hT hB hb)
        rw [hr] at CI
        obtain ⟨J, hJ⟩ : ∃ J, skip s j + 1 = J := ⟨_, rfl⟩
        rw [hJ] at CN CI HAdv hsk
        clear hT' h124 hR hr hJ
        go_upto_region 8 with (go_at_call 90; (with_reducible refine CN.out.mono ?_); rintro e w2 ⟨rfl, hr, hk⟩; have HR2 := Aside0.mk hr; have HK2 := Aside0.mk hk; clear hr hk)
        have HKq := Aside0.mk ((HK.out.trans HK2.out).trans (Kb.drewN w2 1))
        have HRq : Aside0 (Rq w2.drew b s J 0 0) := ⟨HR2.out⟩
        have HPq : Aside0 (w2.drew.heap[w.heap.size + 1]? = some (.cells #[.int .i64 8, .string ⟨#[]⟩, .slice A ts.length c, .slice none 0 0] 25 (0, 0))) := ⟨HK2.out.blk HP.out (by omega)⟩
        have HP0q : Aside0 (w2.drew.heap[w.heap.size]? = some (.cells #[.int .i64 0, .string ⟨#[]⟩, .slice none 0 0, .slice none 0 0] 25 (0, 0))) := ⟨HK2.out.blk HP0.out (by omega)⟩
        have HVq : Aside0 (Kd.string.R 9 w2.drew (w.heap.size + 2) (fun _ => True) (.slice A ts.length c) ts) := ⟨Kd.R_below (R_kb HV.out HK2.out (by omega)) (below_drew (Below.refl _ _))⟩
        have hS : (fun _ : World => True) w2.drew := trivial
        refine wp_region_held (S := (fun _ : World => True)) (by kernel_rfl) ?_
        change wpAnyH _ _ _ _ _ _ _ _ w2.drew
        rw [show w2.drewN 1 = w2.drew from rfl] at HKq
        generalize w2.drew = wq at hS HKq HRq HPq HP0q HVq ⊢
        clear HP HP0 HV HK HR2 HK2 CN
        have q2 := blk_cell HPq.out 2
        simp at q2
        have CI := Aside0.mk (CI.out wq HRq.out (hB.trans (HKq.out.1.mono hb)))
        first | refine tkU 0 hS ?_ | (refine tkV 0 (v := ?_) hS ?_ ?_; rotate_left 1; · (intro w0 hSw; (try dsimp only at hSw); go_split_ands; go_simp; try with_reducible rfl)) | fail
        try simp only [Act.put, pL]
        first | refine tkU 2 hS ?_ | (refine tkV 2 (v := ?_) hS ?_ ?_; rotate_left 1; · (intro w0 hSw; (try dsimp only at hSw); go_split_ands; go_simp; try with_reducible rfl)) | fail
        try simp only [Act.put, pL]
        refine wpAnyH_ready (rs := [1, 3]) (by kernel_rfl) (by simp) ?_
        refine AllReadyH.cons rfl (fun K hK => ?_) (AllReadyH.cons rfl (fun K hK => ?_) AllReadyH.nil)
        · skip
          go_simp
          refine hK.out _ _ trivial (fun _ => ?_)
          clear hK K
          try simp only [Act.put, List.getElem_toArray, List.getElem_cons_succ, List.getElem_cons_zero, List.setIfInBounds_toArray, List.set_cons_zero, List.set_cons_succ]
          refine wpAnyH_ready (rs := [3]) (by kernel_rfl) (by simp) ?_
          refine AllReadyH.cons rfl (fun K hK => ?_) AllReadyH.nil
          go_simp
          refine CI.out.mono ?_
          rintro e w3 ⟨t, rfl, hk, hok, hno⟩
          have HK3 := Aside0.mk (HKq.out.trans hk)
          have HOK3 := Aside0.mk hok
          have HNO3 := Aside0.mk hno
          have HP3 := Aside0.mk (hk.blk HPq.out (by omega))
          have HP03 := Aside0.mk (hk.blk HP0q.out (by omega))
          have HV3 := Aside0.mk (R_kb HVq.out hk (by omega))
          have hz3 : w.heap.size + 1 < w3.heap.size := blk_lt HP3.out
          clear hk hok hno q2
          have q2 := blk_cell HP3.out 2
          simp at q2
          refine hK.out _ _ trivial (fun _ => ?_)
          clear hK K
          try simp only [Act.put, List.getElem_toArray, List.getElem_cons_succ, List.getElem_cons_zero, List.setIfInBounds_toArray, List.set_cons_zero, List.set_cons_succ]
          refine wpAnyH_ready (rs := [4]) (by kernel_rfl) (by simp) ?_
          refine AllReadyH.cons rfl (fun K hK => ?_) AllReadyH.nil
          go_simp
          refine hK.out _ _ trivial (fun _ => ?_)
          clear hK K
          try simp only [Act.put, List.getElem_toArray, List.getElem_cons_succ, List.getElem_cons_zero, List.setIfInBounds_toArray, List.set_cons_zero, List.set_cons_succ]
          refine wpAnyH_ready (rs := [5]) (by kernel_rfl) (by simp) ?_
          refine AllReadyH.cons rfl (fun K hK => ?_) AllReadyH.nil
          refine Kd.R_append_step Kd.string (w0 := w3) (W := w3) (w.heap.size + 2) ?aW (.tmp 46) (.tmp 49) 22 9 (.string ⟨#[]⟩) 16 ?aO1 Tryd.underlying22 info_str rfl (by decide) (by omega) (.slice A ts.length c) ts t [.string t] (fun _ => True) (fun _ => False) ?aE ?aX ?aP (fun _ hk => hk.elim) ?aF ?aO ?aB ?aS ?aL ?_
          case aW => rfl
          case aO1 => rfl
          case aE => rfl
          case aX => rfl
          case aP => exact rfl
          case aF => exact fun _ _ => trivial
          case aO => exact HV3.out
          case aB => exact Below.refl _ _
          case aS => omega
          case aL => omega
          intro v4 w4 ho hb4 hg hat
          obtain ⟨A4, c4, hv4⟩ := Kd.R_slice ho
          subst hv4
          rw [show (ts ++ [t]).length = ts.length + 1 by simp] at ho
          have HV4 := Aside0.mk ho
          have HB4 := Aside0.mk hb4
          have HP4 := Aside0.mk ((hb4.block (w.heap.size + 1) (by omega)).trans HP3.out)
          have HP04 := Aside0.mk ((hb4.block w.heap.size (by omega)).trans HP03.out)
          have HK4 : Aside0 (Kb b w w4) := ⟨⟨HK3.out.1.trans (hb4.mono (by omega)), fun i hi hn => (hb4.block i (by omega)).trans (HK3.out.2 i hi hn)⟩⟩
          clear ho hb4 hg hat q2
          have q0 := blk_cell HP4.out 0
          have q1 := blk_cell HP4.out 1
          have q2 := blk_cell HP4.out 2
          have q3 := blk_cell HP4.out 3
          simp at q0 q1 q2 q3
          have k2 := blk_frozen HP4.out 2
          refine hK.out _ _ trivial (fun _ => ?_)
          clear hK K
          try simp only [Act.put, List.getElem_toArray, List.getElem_cons_succ, List.getElem_cons_zero, List.setIfInBounds_toArray, List.set_cons_zero, List.set_cons_succ]
          first | refine tkU 6 hS ?_ | (refine tkV 6 (v := ?_) hS ?_ ?_; rotate_left 1; · (intro w0 hSw; (try dsimp only at hSw); go_split_ands; go_simp; try with_reducible rfl)) | fail
          try simp only [Act.put, pL]
          refine wpAnyH_ready (rs := [7]) (by kernel_rfl) (by simp) ?_
          refine AllReadyH.cons rfl (fun K hK => ?_) AllReadyH.nil
          go_simp
          refine hK.out _ _ trivial (fun _ => ?_)
          clear hK K
          try simp only [Act.put, List.getElem_toArray, List.getElem_cons_succ, List.getElem_cons_zero, List.setIfInBounds_toArray, List.set_cons_zero, List.set_cons_succ]
          refine wpAnyH_done (by kernel_rfl) ?_ _
          go_wp2_with fail
          have HI : Aside0 (NotI w (w4.setCell ⟨w.heap.size + 1, 2, none⟩ (.slice A4 (ts.length + 1) c4)) b s TOT ∧ mOf (w4.setCell ⟨w.heap.size + 1, 2, none⟩ (.slice A4 (ts.length + 1) c4)) b s.size < mOf wv b s.size) := ⟨by
            rw [HM.out]
            have hrr : ∀ (i : Nat) (er : Int) (o : Nat), Rq w3 b s i er o → Rq (w4.setCell ⟨w.heap.size + 1, 2, none⟩ (.slice A4 (ts.length + 1) c4)) b s i er o := fun i er o h =>
              Rq.far (p := ⟨w.heap.size + 1, 2, none⟩) (show Rq w4 b s i er o from (HB4.out.block b (by omega)).trans h) (by show b ≠ w.heap.size + 1; omega) _
            have hP6 := (blk_set HP4.out 2 (.slice A4 (ts.length + 1) c4)).trans rfl
            have hP06 := blk_far (p := ⟨w.heap.size + 1, 2, none⟩) HP04.out (by show w.heap.size ≠ w.heap.size + 1; omega) (.slice A4 (ts.length + 1) c4)
            have hV6 := Kd.R_set HV4.out HP4.out (by intro q hq; simp [Kd.string, Kd.scalar] at hq; subst hq; decide) 2 (.slice A4 (ts.length + 1) c4)
            have hK6 := HK4.out.far hbl (p := ⟨w.heap.size + 1, 2, none⟩) (by show w.heap.size ≤ w.heap.size + 1; omega) (.slice A4 (ts.length + 1) c4)
            have hT := HT'.out
            cases r with
            | ok t' j2 =>
              obtain ⟨rfl, hr3⟩ := HOK3.out t' j2 rfl
              have ha := HAdv.out t j2 rfl
              have hr6 := hrr _ _ _ hr3
              refine ⟨⟨ts ++ [t], _, hP6, hP06, hV6, hK6, .inl ⟨f, j2, hr6, ha.2, by simp; omega, by omega, hT⟩⟩, ?_⟩
              rw [mOf_ok hr6]; omega
            | no er a =>
              obtain ⟨he, i3, hr3⟩ := HNO3.out er a rfl
              have hr6 := hrr _ _ _ hr3
              refine ⟨⟨ts ++ [t], _, hP6, hP06, hV6, hK6, .inr ⟨i3, er, a, he, hr6, hT.symm⟩⟩, ?_⟩
              rw [mOf_err hr6 he]; omega⟩
          go_roundw
          case rel => exact ⟨HI.out.1⟩
          case measure => exact HI.out.2
        · skip
          go_simp
          refine CI.out.mono ?_
          rintro e w3 ⟨t, rfl, hk, hok, hno⟩
          have HK3 := Aside0.mk (HKq.out.trans hk)
          have HOK3 := Aside0.mk hok
          have HNO3 := Aside0.mk hno
          have HP3 := Aside0.mk (hk.blk HPq.out (by omega))
          have HP03 := Aside0.mk (hk.blk HP0q.out (by omega))
          have HV3 := Aside0.mk (R_kb HVq.out hk (by omega))
          have hz3 : w.heap.size + 1 < w3.heap.size := blk_lt HP3.out
          clear hk hok hno q2
          have q2 := blk_cell HP3.out 2
          simp at q2
          refine hK.out _ _ trivial (fun _ => ?_)
          clear hK K
          try simp only [Act.put, List.getElem_toArray, List.getElem_cons_succ, List.getElem_cons_zero, List.setIfInBounds_toArray, List.set_cons_zero, List.set_cons_succ]
          refine wpAnyH_ready (rs := [1, 4]) (by kernel_rfl) (by simp) ?_
          refine AllReadyH.cons rfl (fun K hK => ?_) (AllReadyH.cons rfl (fun K hK => ?_) AllReadyH.nil)
          · skip
            go_simp
            refine hK.out _ _ trivial (fun _ => ?_)
            clear hK K
            try simp only [Act.put, List.getElem_toArray, List.getElem_cons_succ, List.getElem_cons_zero, List.setIfInBounds_toArray, List.set_cons_zero, List.set_cons_succ]
            refine wpAnyH_ready (rs := [4]) (by kernel_rfl) (by simp) ?_
            refine AllReadyH.cons rfl (fun K hK => ?_) AllReadyH.nil
            go_simp
            refine hK.out _ _ trivial (fun _ => ?_)
            clear hK K
            try simp only [Act.put, List.getElem_toArray, List.getElem_cons_succ, List.getElem_cons_zero, List.setIfInBounds_toArray, List.set_cons_zero, List.set_cons_succ]
            refine wpAnyH_ready (rs := [5]) (by kernel_rfl) (by simp) ?_
            refine AllReadyH.cons rfl (fun K hK => ?_) AllReadyH.nil
            refine Kd.R_append_step Kd.string (w0 := w3) (W := w3) (w.heap.size + 2) ?aW (.tmp 46) (.tmp 49) 22 9 (.string ⟨#[]⟩) 16 ?aO1 Tryd.underlying22 info_str rfl (by decide) (by omega) (.slice A ts.length c) ts t [.string t] (fun _ => True) (fun _ => False) ?aE ?aX ?aP (fun _ hk => hk.elim) ?aF ?aO ?aB ?aS ?aL ?_
            case aW => rfl
            case aO1 => rfl
            case aE => rfl
            case aX => rfl
            case aP => exact rfl
            case aF => exact fun _ _ => trivial
            case aO => exact HV3.out
            case aB => exact Below.refl _ _
            case aS => omega
            case aL => omega
            intro v4 w4 ho hb4 hg hat
            obtain ⟨A4, c4, hv4⟩ := Kd.R_slice ho
            subst hv4
            rw [show (ts ++ [t]).length = ts.length + 1 by simp] at ho
            have HV4 := Aside0.mk ho
            have HB4 := Aside0.mk hb4
            have HP4 := Aside0.mk ((hb4.block (w.heap.size + 1) (by omega)).trans HP3.out)
            have HP04 := Aside0.mk ((hb4.block w.heap.size (by omega)).trans HP03.out)
            have HK4 : Aside0 (Kb b w w4) := ⟨⟨HK3.out.1.trans (hb4.mono (by omega)), fun i hi hn => (hb4.block i (by omega)).trans (HK3.out.2 i hi hn)⟩⟩
            clear ho hb4 hg hat q2
            have q0 := blk_cell HP4.out 0
            have q1 := blk_cell HP4.out 1
            have q2 := blk_cell HP4.out 2
            have q3 := blk_cell HP4.out 3
            simp at q0 q1 q2 q3
            have k2 := blk_frozen HP4.out 2
            refine hK.out _ _ trivial (fun _ => ?_)
            clear hK K
            try simp only [Act.put, List.getElem_toArray, List.getElem_cons_succ, List.getElem_cons_zero, List.setIfInBounds_toArray, List.set_cons_zero, List.set_cons_succ]
            first | refine tkU 6 hS ?_ | (refine tkV 6 (v := ?_) hS ?_ ?_; rotate_left 1; · (intro w0 hSw; (try dsimp only at hSw); go_split_ands; go_simp; try with_reducible rfl)) | fail
            try simp only [Act.put, pL]
            refine wpAnyH_ready (rs := [7]) (by kernel_rfl) (by simp) ?_
            refine AllReadyH.cons rfl (fun K hK => ?_) AllReadyH.nil
            go_simp
            refine hK.out _ _ trivial (fun _ => ?_)
            clear hK K
            try simp only [Act.put, List.getElem_toArray, List.getElem_cons_succ, List.getElem_cons_zero, List.setIfInBounds_toArray, List.set_cons_zero, List.set_cons_succ]
            refine wpAnyH_done (by kernel_rfl) ?_ _
            go_wp2_with fail
            have HI : Aside0 (NotI w (w4.setCell ⟨w.heap.size + 1, 2, none⟩ (.slice A4 (ts.length + 1) c4)) b s TOT ∧ mOf (w4.setCell ⟨w.heap.size + 1, 2, none⟩ (.slice A4 (ts.length + 1) c4)) b s.size < mOf wv b s.size) := ⟨by
              rw [HM.out]
              have hrr : ∀ (i : Nat) (er : Int) (o : Nat), Rq w3 b s i er o → Rq (w4.setCell ⟨w.heap.size + 1, 2, none⟩ (.slice A4 (ts.length + 1) c4)) b s i er o := fun i er o h =>
                Rq.far (p := ⟨w.heap.size + 1, 2, none⟩) (show Rq w4 b s i er o from (HB4.out.block b (by omega)).trans h) (by show b ≠ w.heap.size + 1; omega) _
              have hP6 := (blk_set HP4.out 2 (.slice A4 (ts.length + 1) c4)).trans rfl
              have hP06 := blk_far (p := ⟨w.heap.size + 1, 2, none⟩) HP04.out (by show w.heap.size ≠ w.heap.size + 1; omega) (.slice A4 (ts.length + 1) c4)
              have hV6 := Kd.R_set HV4.out HP4.out (by intro q hq; simp [Kd.string, Kd.scalar] at hq; subst hq; decide) 2 (.slice A4 (ts.length + 1) c4)
              have hK6 := HK4.out.far hbl (p := ⟨w.heap.size + 1, 2, none⟩) (by show w.heap.size ≤ w.heap.size + 1; omega) (.slice A4 (ts.length + 1) c4)
              have hT := HT'.out
              cases r with
              | ok t' j2 =>
                obtain ⟨rfl, hr3⟩ := HOK3.out t' j2 rfl
                have ha := HAdv.out t j2 rfl
                have hr6 := hrr _ _ _ hr3
                refine ⟨⟨ts ++ [t], _, hP6, hP06, hV6, hK6, .inl ⟨f, j2, hr6, ha.2, by simp; omega, by omega, hT⟩⟩, ?_⟩
                rw [mOf_ok hr6]; omega
              | no er a =>
                obtain ⟨he, i3, hr3⟩ := HNO3.out er a rfl
                have hr6 := hrr _ _ _ hr3
                refine ⟨⟨ts ++ [t], _, hP6, hP06, hV6, hK6, .inr ⟨i3, er, a, he, hr6, hT.symm⟩⟩, ?_⟩
                rw [mOf_err hr6 he]; omega⟩
            go_roundw
            case rel => exact ⟨HI.out.1⟩
            case measure => exact HI.out.2
          · skip
            go_simp
            refine hK.out _ _ trivial (fun _ => ?_)
            clear hK K
            try simp only [Act.put, List.getElem_toArray, List.getElem_cons_succ, List.getElem_cons_zero, List.setIfInBounds_toArray, List.set_cons_zero, List.set_cons_succ]
            refine wpAnyH_ready (rs := [1]) (by kernel_rfl) (by simp) ?_
            refine AllReadyH.cons rfl (fun K hK => ?_) AllReadyH.nil
            go_simp
            refine hK.out _ _ trivial (fun _ => ?_)
            clear hK K
            try simp only [Act.put, List.getElem_toArray, List.getElem_cons_succ, List.getElem_cons_zero, List.setIfInBounds_toArray, List.set_cons_zero, List.set_cons_succ]
            refine wpAnyH_ready (rs := [5]) (by kernel_rfl) (by simp) ?_
            refine AllReadyH.cons rfl (fun K hK => ?_) AllReadyH.nil
            refine Kd.R_append_step Kd.string (w0 := w3) (W := w3) (w.heap.size + 2) ?aW (.tmp 46) (.tmp 49) 22 9 (.string ⟨#[]⟩) 16 ?aO1 Tryd.underlying22 info_str rfl (by decide) (by omega) (.slice A ts.length c) ts t [.string t] (fun _ => True) (fun _ => False) ?aE ?aX ?aP (fun _ hk => hk.elim) ?aF ?aO ?aB ?aS ?aL ?_
            case aW => rfl
            case aO1 => rfl
            case aE => rfl
            case aX => rfl
            case aP => exact rfl
            case aF => exact fun _ _ => trivial
            case aO => exact HV3.out
            case aB => exact Below.refl _ _
            case aS => omega
            case aL => omega
            intro v4 w4 ho hb4 hg hat
            obtain ⟨A4, c4, hv4⟩ := Kd.R_slice ho
            subst hv4
            rw [show (ts ++ [t]).length = ts.length + 1 by simp] at ho
            have HV4 := Aside0.mk ho
            have HB4 := Aside0.mk hb4
            have HP4 := Aside0.mk ((hb4.block (w.heap.size + 1) (by omega)).trans HP3.out)
            have HP04 := Aside0.mk ((hb4.block w.heap.size (by omega)).trans HP03.out)
            have HK4 : Aside0 (Kb b w w4) := ⟨⟨HK3.out.1.trans (hb4.mono (by omega)), fun i hi hn => (hb4.block i (by omega)).trans (HK3.out.2 i hi hn)⟩⟩
            clear ho hb4 hg hat q2
            have q0 := blk_cell HP4.out 0
            have q1 := blk_cell HP4.out 1
            have q2 := blk_cell HP4.out 2
            have q3 := blk_cell HP4.out 3
            simp at q0 q1 q2 q3
            have k2 := blk_frozen HP4.out 2
            refine hK.out _ _ trivial (fun _ => ?_)
            clear hK K
            try simp only [Act.put, List.getElem_toArray, List.getElem_cons_succ, List.getElem_cons_zero, List.setIfInBounds_toArray, List.set_cons_zero, List.set_cons_succ]
            first | refine tkU 6 hS ?_ | (refine tkV 6 (v := ?_) hS ?_ ?_; rotate_left 1; · (intro w0 hSw; (try dsimp only at hSw); go_split_ands; go_simp; try with_reducible rfl)) | fail
            try simp only [Act.put, pL]
            refine wpAnyH_ready (rs := [7]) (by kernel_rfl) (by simp) ?_
            refine AllReadyH.cons rfl (fun K hK => ?_) AllReadyH.nil
            go_simp
            refine hK.out _ _ trivial (fun _ => ?_)
            clear hK K
            try simp only [Act.put, List.getElem_toArray, List.getElem_cons_succ, List.getElem_cons_zero, List.setIfInBounds_toArray, List.set_cons_zero, List.set_cons_succ]
            refine wpAnyH_done (by kernel_rfl) ?_ _
            go_wp2_with fail
            have HI : Aside0 (NotI w (w4.setCell ⟨w.heap.size + 1, 2, none⟩ (.slice A4 (ts.length + 1) c4)) b s TOT ∧ mOf (w4.setCell ⟨w.heap.size + 1, 2, none⟩ (.slice A4 (ts.length + 1) c4)) b s.size < mOf wv b s.size) := ⟨by
              rw [HM.out]
              have hrr : ∀ (i : Nat) (er : Int) (o : Nat), Rq w3 b s i er o → Rq (w4.setCell ⟨w.heap.size + 1, 2, none⟩ (.slice A4 (ts.length + 1) c4)) b s i er o := fun i er o h =>
                Rq.far (p := ⟨w.heap.size + 1, 2, none⟩) (show Rq w4 b s i er o from (HB4.out.block b (by omega)).trans h) (by show b ≠ w.heap.size + 1; omega) _
              have hP6 := (blk_set HP4.out 2 (.slice A4 (ts.length + 1) c4)).trans rfl
              have hP06 := blk_far (p := ⟨w.heap.size + 1, 2, none⟩) HP04.out (by show w.heap.size ≠ w.heap.size + 1; omega) (.slice A4 (ts.length + 1) c4)
              have hV6 := Kd.R_set HV4.out HP4.out (by intro q hq; simp [Kd.string, Kd.scalar] at hq; subst hq; decide) 2 (.slice A4 (ts.length + 1) c4)
              have hK6 := HK4.out.far hbl (p := ⟨w.heap.size + 1, 2, none⟩) (by show w.heap.size ≤ w.heap.size + 1; omega) (.slice A4 (ts.length + 1) c4)
              have hT := HT'.out
              cases r with
              | ok t' j2 =>
                obtain ⟨rfl, hr3⟩ := HOK3.out t' j2 rfl
                have ha := HAdv.out t j2 rfl
                have hr6 := hrr _ _ _ hr3
                refine ⟨⟨ts ++ [t], _, hP6, hP06, hV6, hK6, .inl ⟨f, j2, hr6, ha.2, by simp; omega, by omega, hT⟩⟩, ?_⟩
                rw [mOf_ok hr6]; omega
              | no er a =>
                obtain ⟨he, i3, hr3⟩ := HNO3.out er a rfl
                have hr6 := hrr _ _ _ hr3
                refine ⟨⟨ts ++ [t], _, hP6, hP06, hV6, hK6, .inr ⟨i3, er, a, he, hr6, hT.symm⟩⟩, ?_⟩
                rw [mOf_err hr6 he]; omega⟩
            go_roundw
            case rel => exact ⟨HI.out.1⟩
            case measure => exact HI.out.2
      · by_cases h41 : nx s j = 41
        · rw [texts_end h41] at hT'
          have CN := Aside0.mk (is_no b s j 0 124 0 wv hR hs hj h124)
          have HT' := Aside0.mk hT'
          have CM := Aside0.mk (fun W h => must_yes b s (skip s j) 0 41 0 W h hs (skip_le hj) (by rw [nx_skip]; exact h41) (by decide))
          rw [skip_skip] at CM
          simp only [Int.cast_ofNat_Int] at CN
          simp only [Int.cast_ofNat_Int] at CM
          clear hT' hR
          go_wp2_with (first
            | (go_at_call 90; (with_reducible refine CN.out.mono ?_); rintro e w2 ⟨rfl, hr, hk⟩; have HR2 := Aside0.mk hr; have HK2 := Aside0.mk hk; clear hr hk)
            | (go_at_call 166; (with_reducible refine (CM.out _ HR2.out).mono ?_); rintro e w3 ⟨rfl, hr, hk⟩; have HR3 := Aside0.mk hr; have HKm := Aside0.mk (HK2.out.trans hk); have HP3 := Aside0.mk (HKm.out.blk HP.out (by omega)); have HP03 := Aside0.mk (HKm.out.blk HP0.out (by omega)); have q0 := blk_cell HP3.out 0; have q1 := blk_cell HP3.out 1; have q2 := blk_cell HP3.out 2; have q3 := blk_cell HP3.out 3; simp at q0 q1 q2 q3; have k0 := blk_frozen HP3.out 0; have k1 := blk_frozen HP3.out 1; have k2 := blk_frozen HP3.out 2; have k3 := blk_frozen HP3.out 3; have m0 := blk_cell HP03.out 0; have m1 := blk_cell HP03.out 1; have m2 := blk_cell HP03.out 2; have m3 := blk_cell HP03.out 3; simp at m0 m1 m2 m3; have l0 := blk_frozen HP03.out 0; have l1 := blk_frozen HP03.out 1; have l2 := blk_frozen HP03.out 2; have l3 := blk_frozen HP03.out 3; clear hr hk))
          have HRe := HR3
          have HKe := Aside0.mk (HK.out.trans HKm.out)
          have HPz := HP03
          have HV3 := Aside0.mk (R_kb HV.out HKm.out (by omega))
          obtain ⟨wf, hwf, HRf, HKf, HNf, HPf, HGf, HSf⟩ := fin4 HRe.out HKe.out hbl (Nat.le_refl _) HPz.out (.int .i64 8) (.string ⟨#[]⟩) (.slice A ts.length c) (.slice none 0 0)
          rw [← hwf]
          have z0 := blk_cell HNf.out 0
          have z1 := blk_cell HNf.out 1
          have z2 := blk_cell HNf.out 2
          have z3 := blk_cell HNf.out 3
          simp at z0 z1 z2 z3
          clear hwf
          refine bodyPost_ret (by simp [results, Tryd.results165, go_sem, z0, z1, z2, z3]; try rfl) rfl ?_
          rw [← HT'.out]
          obtain ⟨A', c', hv, hp⟩ := not_end (s := s) HKe.out HV3.out
          exact PostP.ok HKf.out HRf.out (PathAt.mono (fun g hg _ => by omega) _ (HPf.out _ _ _ (fun g hg => by omega) hp))
        · rw [texts_no h124 h41] at hT'
          have CN := Aside0.mk (is_no b s j 0 124 0 wv hR hs hj h124)
          have HT' := Aside0.mk hT'
          have CM := Aside0.mk (fun W h => must_no b s (skip s j) 0 41 0 W h hs (skip_le hj) (by rw [nx_skip]; exact h41))
          rw [skip_skip] at CM
          simp only [Int.cast_ofNat_Int] at CN
          simp only [Int.cast_ofNat_Int] at CM
          clear hT' hR
          go_wp2_with (first
            | (go_at_call 90; (with_reducible refine CN.out.mono ?_); rintro e w2 ⟨rfl, hr, hk⟩; have HR2 := Aside0.mk hr; have HK2 := Aside0.mk hk; clear hr hk)
            | (go_at_call 166; (with_reducible refine (CM.out _ HR2.out).mono ?_); rintro e w3 ⟨rfl, hr, hk⟩; have HR3 := Aside0.mk hr; have HKm := Aside0.mk (HK2.out.trans hk); have HP3 := Aside0.mk (HKm.out.blk HP.out (by omega)); have HP03 := Aside0.mk (HKm.out.blk HP0.out (by omega)); have q0 := blk_cell HP3.out 0; have q1 := blk_cell HP3.out 1; have q2 := blk_cell HP3.out 2; have q3 := blk_cell HP3.out 3; simp at q0 q1 q2 q3; have k0 := blk_frozen HP3.out 0; have k1 := blk_frozen HP3.out 1; have k2 := blk_frozen HP3.out 2; have k3 := blk_frozen HP3.out 3; have m0 := blk_cell HP03.out 0; have m1 := blk_cell HP03.out 1; have m2 := blk_cell HP03.out 2; have m3 := blk_cell HP03.out 3; simp at m0 m1 m2 m3; have l0 := blk_frozen HP03.out 0; have l1 := blk_frozen HP03.out 1; have l2 := blk_frozen HP03.out 2; have l3 := blk_frozen HP03.out 3; clear hr hk))
          have HRe := HR3
          have HKe := Aside0.mk (HK.out.trans HKm.out)
          have HPz := HP03
          have HV3 := Aside0.mk (R_kb HV.out HKm.out (by omega))
          obtain ⟨wf, hwf, HRf, HKf, HNf, HPf, HGf, HSf⟩ := fin4 HRe.out HKe.out hbl (Nat.le_refl _) HPz.out (.int .i64 8) (.string ⟨#[]⟩) (.slice A ts.length c) (.slice none 0 0)
          rw [← hwf]
          have z0 := blk_cell HNf.out 0
          have z1 := blk_cell HNf.out 1
          have z2 := blk_cell HNf.out 2
          have z3 := blk_cell HNf.out 3
          simp at z0 z1 z2 z3
          clear hwf
          refine bodyPost_ret (by simp [results, Tryd.results165, go_sem, z0, z1, z2, z3]; try rfl) rfl ?_
          rw [← HT'.out]
          exact PostP.no HKf.out (by decide) HRf.out
    · skip
      have CN := Aside0.mk (is_err b s j a 124 er wv hR he (by decide))
      have HT' := Aside0.mk hT'
      have CM := Aside0.mk (fun W h => must_err b s j a 41 er W h he (by decide))
      simp only [Int.cast_ofNat_Int] at CN
      simp only [Int.cast_ofNat_Int] at CM
      clear hT' hR
      go_wp2_with (first
        | (go_at_call 90; (with_reducible refine CN.out.mono ?_); rintro e w2 ⟨rfl, hr, hk⟩; have HR2 := Aside0.mk hr; have HK2 := Aside0.mk hk; clear hr hk)
        | (go_at_call 166; (with_reducible refine (CM.out _ HR2.out).mono ?_); rintro e w3 ⟨rfl, hr, hk⟩; have HR3 := Aside0.mk hr; have HKm := Aside0.mk (HK2.out.trans hk); have HP3 := Aside0.mk (HKm.out.blk HP.out (by omega)); have HP03 := Aside0.mk (HKm.out.blk HP0.out (by omega)); have q0 := blk_cell HP3.out 0; have q1 := blk_cell HP3.out 1; have q2 := blk_cell HP3.out 2; have q3 := blk_cell HP3.out 3; simp at q0 q1 q2 q3; have k0 := blk_frozen HP3.out 0; have k1 := blk_frozen HP3.out 1; have k2 := blk_frozen HP3.out 2; have k3 := blk_frozen HP3.out 3; have m0 := blk_cell HP03.out 0; have m1 := blk_cell HP03.out 1; have m2 := blk_cell HP03.out 2; have m3 := blk_cell HP03.out 3; simp at m0 m1 m2 m3; have l0 := blk_frozen HP03.out 0; have l1 := blk_frozen HP03.out 1; have l2 := blk_frozen HP03.out 2; have l3 := blk_frozen HP03.out 3; clear hr hk))
      have HRe := HR3
      have HKe := Aside0.mk (HK.out.trans HKm.out)
      have HPz := HP03
      have HV3 := Aside0.mk (R_kb HV.out HKm.out (by omega))
      obtain ⟨wf, hwf, HRf, HKf, HNf, HPf, HGf, HSf⟩ := fin4 HRe.out HKe.out hbl (Nat.le_refl _) HPz.out (.int .i64 8) (.string ⟨#[]⟩) (.slice A ts.length c) (.slice none 0 0)
      rw [← hwf]
      have z0 := blk_cell HNf.out 0
      have z1 := blk_cell HNf.out 1
      have z2 := blk_cell HNf.out 2
      have z3 := blk_cell HNf.out 3
      simp at z0 z1 z2 z3
      clear hwf
      refine bodyPost_ret (by simp [results, Tryd.results165, go_sem, z0, z1, z2, z3]; try rfl) rfl ?_
      rw [HT'.out]
      exact PostP.no HKf.out he HRf.out
theorem not_res (b : Nat) (s : ByteArray) (i : Nat) (w0 w : World) (hR : Rq w b s i 0 0) (hs : s.size ≤ 50000) (hi : i ≤ s.size) (hT : Tabs w0) (hB : Below w0.heap.size w0 w) (hb : w0.heap.size ≤ b) :
    Calls Tryd.prog 165 #[.pointer (some ⟨b, 0, none⟩)] w (PostP b s w (negR (notS s i))) := by
  by_cases hc : i < s.size
  · by_cases hx : byteAt s i = 40
    · exact not_a b s i w0 w hR hs hi hT hB hb hc hx
    · exact not_b2 b s i w0 w hR hs hi hT hB hb hc hx
  · exact not_b1 b s i w0 w hR hs hi hT hB hb (by omega)
end Go.Proofs.YtbaegfjoionojaaDoor.Qy
