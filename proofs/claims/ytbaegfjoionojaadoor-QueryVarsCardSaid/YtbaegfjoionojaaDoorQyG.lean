/- The walk of query.Path: any text as a path, or the place and the error. -/
import Derived.Test.YtbaegfjoionojaaDoorQyF
set_option linter.unusedSimpArgs false
set_option linter.unusedVariables false
namespace Go.Proofs.YtbaegfjoionojaaDoor.Qy
open Go Go.RowKit Go.Proofs.YtbaegfjoionojaaDoor.Tm Go.Proofs.YtbaegfjoionojaaDoorW.PrintWords

theorem step_eq (s : ByteArray) (B : Nat → Res Pth) (i : Nat) : thenR (signsR s (s.size + 1)) (B i) = stepS s B i := by
  unfold thenR stepS signsR; cases B i <;> rfl
theorem seq_eq (s : ByteArray) (B : Nat → Res Pth) (i : Nat) : thenR (chainS s 47 3 (stepS s B) (s.size + 1)) (stepS s B i) = seqS s B i := by
  unfold thenR seqS; cases stepS s B i <;> rfl
theorem path_eq (s : ByteArray) (B : Nat → Res Pth) (i : Nat) : thenR (chainS s 124 4 (seqS s B) (s.size + 1)) (seqS s B i) = pathS s B i := by
  unfold thenR pathS; cases seqS s B i <;> rfl
theorem path_of (b : Nat) (s : ByteArray) (w0 : World) (d : Nat) (B : Nat → Res Pth) (hs : s.size ≤ 50000) (hT : Tabs w0) (hb : w0.heap.size ≤ b) (hA : ∀ i, Adv s i (B i)) (hB : ParseC 138 b s w0 d B) :
    ParseC 55 b s w0 d (pathS s B) := by
  have h1 : ParseC 115 b s w0 d (stepS s B) := fun i w hW hR hi => by
    rw [← step_eq]
    exact step_any b s i d w0 w hR hs hi hT hW hb B hB hA
  have h2 : ParseC 89 b s w0 d (seqS s B) := fun i w hW hR hi => by
    rw [← seq_eq]
    exact seq_any b s i d w0 w hR hs hi hT hW hb (stepS s B) h1 (step_adv hA)
  intro i w hW hR hi
  rw [← path_eq]
  exact path_any b s i d w0 w hR hs hi hT hW hb (seqS s B) h2 (seq_adv hA)
theorem back_all (b : Nat) (s : ByteArray) (w0 : World) (hs : s.size ≤ 50000) (hT : Tabs w0) (hb : w0.heap.size ≤ b) : ∀ n, n ≤ 5 → ParseC 138 b s w0 (5 - n) (backS s n)
  | 0, _ => back_any b s w0 hs hT hb 0 (by decide) (atom_any b s w0 hs hT hb 0 (by decide) (fun m h => by cases h)) (fun m h => by cases h)
  | n + 1, h => by
    have ih := back_all b s w0 hs hT hb n (by omega)
    have hp := path_of b s w0 _ _ hs hT hb (back_adv s n) ih
    exact back_any b s w0 hs hT hb (n + 1) h (atom_any b s w0 hs hT hb (n + 1) h (fun m hm => (show n = m by omega) ▸ hp)) (fun m hm => (show n = m by omega) ▸ ih)
theorem path_top (b : Nat) (s : ByteArray) (w0 : World) (hs : s.size ≤ 50000) (hT : Tabs w0) (hb : w0.heap.size ≤ b) : ParseC 55 b s w0 0 (pathS s (backS s 5)) :=
  path_of b s w0 0 _ hs hT hb (back_adv s 5) (back_all b s w0 hs hT hb 5 (Nat.le_refl _))
/-- What query.Path answers. -/
def PostR (w : World) (r : Pth × Nat × Int) (e : Ending) (w' : World) : Prop :=
  ∃ (k : Int) (t : ByteArray) (A : Option Addr) (n c : Nat) (B : Option Addr) (m d : Nat), e = .returned (.tuple #[.agg #[.int .i64 k, .string t, .slice A n c, .slice B m d], .int .i64 (r.2.1 : Int), .int .i64 r.2.2]) ∧ Below w.heap.size w w' ∧ PathAt w' (fun g => w.heap.size ≤ g) r.1 [.int .i64 k, .string t, .slice A n c, .slice B m d]
/-- The result's block, written. -/
theorem fin4b {w wb : World} {A base : Nat} {ty : TypeId} {u0 u1 u2 u3 : Value} (hK : Below base w wb) (hA : base ≤ A) (hN : wb.heap[A]? = some (.cells #[u0, u1, u2, u3] ty (0, 0))) (v0 v1 v2 v3 : Value) :
    ∃ wf, wf = (((wb.setCell ⟨A, 0, none⟩ v0).setCell ⟨A, 1, none⟩ v1).setCell ⟨A, 2, none⟩ v2).setCell ⟨A, 3, none⟩ v3 ∧ Aside0 (Below base w wf) ∧ Aside0 (wf.heap[A]? = some (.cells #[v0, v1, v2, v3] ty (0, 0))) ∧
      Aside0 (∀ (ok : Nat → Prop) (p : Pth) (cs : List Value), (∀ k, ok k → k ≠ A) → PathAt wb ok p cs → PathAt wf ok p cs) ∧ Aside0 (∀ (g : Nat) (o : Obj), g ≠ A → wb.heap[g]? = some o → wf.heap[g]? = some o) :=
  ⟨_, rfl, ⟨(((hK.setCell (p := ⟨A, 0, none⟩) hA v0).setCell (p := ⟨A, 1, none⟩) hA v1).setCell (p := ⟨A, 2, none⟩) hA v2).setCell (p := ⟨A, 3, none⟩) hA v3⟩,
    ⟨four_set hN v0 v1 v2 v3⟩, ⟨fun ok p cs h hp => (((hp.far (q := ⟨A, 0, none⟩) h v0).far (q := ⟨A, 1, none⟩) h v1).far (q := ⟨A, 2, none⟩) h v2).far (q := ⟨A, 3, none⟩) h v3⟩,
    ⟨fun g o hg ho => (Below.heap_setCell _ ⟨A, 3, none⟩ v3 g hg).trans ((Below.heap_setCell _ ⟨A, 2, none⟩ v2 g hg).trans ((Below.heap_setCell _ ⟨A, 1, none⟩ v1 g hg).trans ((Below.heap_setCell _ ⟨A, 0, none⟩ v0 g hg).trans ho)))⟩⟩
set_option maxRecDepth 100000 in
set_option maxHeartbeats 8000000 in
theorem path_long (s : ByteArray) (w : World) (hl : 600 < s.size) (hs : s.size ≤ 50000) : Calls Tryd.prog 26 #[.string s] w (PostR w (noP, 0, 4)) := by
  obtain ⟨wa, hwa, HBa⟩ : ∃ wa, wa = w.alloc (.cells #[.int .i64 0, .string ⟨#[]⟩, .slice none 0 0, .slice none 0 0] 25) ∧ Aside0 (Below w.heap.size w wa) := ⟨_, rfl, ⟨below_alloc (Below.refl _ _) _⟩⟩
  have HNa : Aside0 (wa.heap[w.heap.size]? = some (.cells #[.int .i64 0, .string ⟨#[]⟩, .slice none 0 0, .slice none 0 0] 25 (0, 0))) := ⟨by rw [hwa]; exact heap_alloc_new _ _⟩
  have HHW : Aside0 (w.alloc (.cells #[.int .i64 0, .string ⟨#[]⟩, .slice none 0 0, .slice none 0 0] 25) = wa) := ⟨hwa.symm⟩
  have g1 : (600 : Int) < (s.size : Int) := by omega
  clear hwa hl
  go_enter Tryd.func26, Tryd.ntmps26
  go_upto_region 1 with (fail)
  rw [HHW.out]
  have q0 := blk_cell HNa.out 0; have q1 := blk_cell HNa.out 1; have q2 := blk_cell HNa.out 2; have q3 := blk_cell HNa.out 3; simp at q0 q1 q2 q3; have k0 := blk_frozen HNa.out 0; have k1 := blk_frozen HNa.out 1; have k2 := blk_frozen HNa.out 2; have k3 := blk_frozen HNa.out 3
  go_wp2_with fail
  obtain ⟨wf, hwf, HBf, HNf, HPf, HGf⟩ := fin4b HBa.out (Nat.le_refl _) HNa.out (.int .i64 0) (.string ⟨#[]⟩) (.slice none 0 0) (.slice none 0 0)
  rw [← hwf]
  have z0 := blk_cell HNf.out 0
  have z1 := blk_cell HNf.out 1
  have z2 := blk_cell HNf.out 2
  have z3 := blk_cell HNf.out 3
  simp at z0 z1 z2 z3
  clear hwf
  refine bodyPost_ret (by simp [results, Tryd.results26, go_sem, z0, z1, z2, z3]; try rfl) rfl ?_
  exact ⟨_, _, _, _, _, _, _, _, rfl, HBf.out, path_leaf 0 ⟨#[]⟩⟩
set_option maxRecDepth 100000 in
set_option maxHeartbeats 8000000 in
theorem path_ok (s : ByteArray) (w : World) (hl : s.size ≤ 600) (hT : Tabs w) (p : Pth) (i : Nat) (hr : pathS s (backS s 5) 0 = .ok p i) (he : ¬ skip s i < s.size) : Calls Tryd.prog 26 #[.string s] w (PostR w (p, s.size, 0)) := by
  have hs : s.size ≤ 50000 := by omega
  obtain ⟨wa, hwa, HBa⟩ : ∃ wa, wa = w.alloc (.cells #[.int .i64 0, .string ⟨#[]⟩, .slice none 0 0, .slice none 0 0] 25) ∧ Aside0 (Below w.heap.size w wa) := ⟨_, rfl, ⟨below_alloc (Below.refl _ _) _⟩⟩
  have HNa : Aside0 (wa.heap[w.heap.size]? = some (.cells #[.int .i64 0, .string ⟨#[]⟩, .slice none 0 0, .slice none 0 0] 25 (0, 0))) := ⟨by rw [hwa]; exact heap_alloc_new _ _⟩
  have HZa : wa.heap.size = w.heap.size + 1 := by rw [hwa]; simp
  have HHW : Aside0 (w.alloc (.cells #[.int .i64 0, .string ⟨#[]⟩, .slice none 0 0, .slice none 0 0] 25) = wa) := ⟨hwa.symm⟩
  obtain ⟨wb, hwb, HBb⟩ : ∃ wb, wb = wa.alloc (.cells #[.string s, .int .i64 0, .int .i64 0, .int .i64 0] 84) ∧ Aside0 (Below wa.heap.size wa wb) := ⟨_, rfl, ⟨below_alloc (Below.refl _ _) _⟩⟩
  have HRb : Aside0 (Rq wb (w.heap.size + 1) s 0 0 0) := ⟨by rw [hwb, ← HZa]; exact heap_alloc_new _ _⟩
  have HNb := Aside0.mk (blk_below HNa.out HBb.out)
  have HHV : Aside0 (wa.alloc (.cells #[.string s, .int .i64 0, .int .i64 0, .int .i64 0] 84) = wb) := ⟨hwb.symm⟩
  have CP : Aside0 (Calls Tryd.prog 55 #[.pointer (some ⟨w.heap.size + 1, 0, none⟩), .int .i64 0] wb (PostP (w.heap.size + 1) s wb (pathS s (backS s 5) 0))) := ⟨path_top (w.heap.size + 1) s wa hs (hT.below HBa.out) (by omega) 0 wb HBb.out HRb.out (Nat.zero_le _)⟩
  have g1 : (s.size : Int) ≤ 600 := by omega
  obtain ⟨b, hb⟩ : ∃ b, w.heap.size + 1 = b := ⟨_, rfl⟩
  rw [hb] at CP HRb HZa
  have hbb : w.heap.size < b := by omega
  have HBB := Aside0.mk hb
  have hzb : b < wb.heap.size := blk_lt HRb.out
  rw [hr] at CP
  have hadv := path_adv (back_adv s 5) 0 p i hr
  have hsk : skip s i = s.size := by have := skip_le hadv.2; omega
  have hnx : nx s i = 0 := by unfold nx; rw [if_neg he]
  have HSK := Aside0.mk hsk
  have HNX := Aside0.mk hnx
  have HAD := Aside0.mk hadv
  clear hr he hsk hnx hadv
  clear hwa hwb
  go_enter Tryd.func26, Tryd.ntmps26
  go_upto_region 1 with (fail)
  rw [HHW.out]
  go_upto_region 4 with (fail)
  rw [HHV.out]
  try rw [HZa]
  clear hb
  go_upto_region 5 with (go_at_call 55; (with_reducible refine CP.out.mono ?_); rintro e w2 ⟨k', t', A', n', c', B', m', d', rfl, hk, hok, hno⟩; have HK2 := Aside0.mk hk; have HOK2 := Aside0.mk hok; have HNO2 := Aside0.mk hno; have HP2 := Aside0.mk (hk.blk HNb.out (by omega)); have hz2 := hk.size; clear hk hok hno)
  obtain ⟨w3, hw3, HB3⟩ : ∃ w3, w3 = w2.alloc (.cells #[.int .i64 k', .string t', .slice A' n' c', .slice B' m' d'] 25) ∧ Aside0 (Below w2.heap.size w2 w3) := ⟨_, rfl, ⟨below_alloc (Below.refl _ _) _⟩⟩
  rw [← hw3]
  have HQ3 : Aside0 (w3.heap[w2.heap.size]? = some (.cells #[.int .i64 k', .string t', .slice A' n' c', .slice B' m' d'] 25 (0, 0))) := ⟨by rw [hw3]; exact heap_alloc_new _ _⟩
  have HP3 := Aside0.mk (blk_below HP2.out HB3.out)
  have HK3 := Aside0.mk (HK2.out.trans (Kb.of HB3.out (by omega)))
  have hz3 := HB3.out.size
  have HBw : Aside0 (∀ W, Kb b wb W → Below w.heap.size w W) := ⟨fun W h => (HBa.out.trans (HBb.out.mono (by omega))).trans (h.1.mono (by omega))⟩
  clear hw3
  obtain ⟨hr3, hp3⟩ := HOK2.out p i rfl
  have CN := Aside0.mk (next_ok b s i 0 w3 (hr3.below HB3.out) hs HAD.out.2)
  rw [HSK.out, HNX.out] at CN
  simp only [Int.cast_ofNat_Int] at CN
  have HPA := Aside0.mk (PathAt.below (PathAt.mono (ok' := fun g => wb.heap.size ≤ g) (fun g hg hl => by omega) _ hp3) HB3.out)
  clear hr3 hp3
  go_wp2_with (go_at_call 56; (with_reducible refine CN.out.mono ?_); rintro e w4 ⟨rfl, hr, hk⟩; have HR4 := Aside0.mk hr; have HK4 := Aside0.mk (HK3.out.trans hk); have HKn := Aside0.mk hk; have HP4 := Aside0.mk (hk.blk HP3.out (by omega)); have HQ4 := Aside0.mk (hk.blk HQ3.out (by omega)); obtain ⟨c0, c1, c2, c3, f1, f2, f3⟩ := hr.cells; have q0 := blk_cell HP4.out 0; have q1 := blk_cell HP4.out 1; have q2 := blk_cell HP4.out 2; have q3 := blk_cell HP4.out 3; simp at q0 q1 q2 q3; have k0 := blk_frozen HP4.out 0; have k1 := blk_frozen HP4.out 1; have k2 := blk_frozen HP4.out 2; have k3 := blk_frozen HP4.out 3; have m0 := blk_cell HQ4.out 0; have m1 := blk_cell HQ4.out 1; have m2 := blk_cell HQ4.out 2; have m3 := blk_cell HQ4.out 3; simp at m0 m1 m2 m3; have l0 := blk_frozen HQ4.out 0; have l1 := blk_frozen HQ4.out 1; have l2 := blk_frozen HQ4.out 2; have l3 := blk_frozen HQ4.out 3; clear hr hk)
  obtain ⟨wf, hwf, HBf, HNf, HPf, HGf⟩ := fin4b (HBw.out _ HK4.out) (Nat.le_refl _) HP4.out (.int .i64 k') (.string t') ((.slice A' n' c')) ((.slice B' m' d'))
  rw [← hwf]
  have z0 := blk_cell HNf.out 0
  have z1 := blk_cell HNf.out 1
  have z2 := blk_cell HNf.out 2
  have z3 := blk_cell HNf.out 3
  simp at z0 z1 z2 z3
  clear hwf
  refine bodyPost_ret (by simp [results, Tryd.results26, go_sem, z0, z1, z2, z3]; try rfl) rfl ?_
  exact ⟨_, _, _, _, _, _, _, _, rfl, HBf.out, PathAt.mono (fun g hg _ => by omega) _ (HPf.out _ _ _ (fun g hg => by omega) (HKn.out.path (fun g hg => by omega) HPA.out))⟩
set_option maxRecDepth 100000 in
set_option maxHeartbeats 8000000 in
theorem path_err (s : ByteArray) (w : World) (hl : s.size ≤ 600) (hT : Tabs w) (e : Int) (a : Nat) (hr : pathS s (backS s 5) 0 = .no e a) : Calls Tryd.prog 26 #[.string s] w (PostR w (noP, a, e)) := by
  have hs : s.size ≤ 50000 := by omega
  obtain ⟨wa, hwa, HBa⟩ : ∃ wa, wa = w.alloc (.cells #[.int .i64 0, .string ⟨#[]⟩, .slice none 0 0, .slice none 0 0] 25) ∧ Aside0 (Below w.heap.size w wa) := ⟨_, rfl, ⟨below_alloc (Below.refl _ _) _⟩⟩
  have HNa : Aside0 (wa.heap[w.heap.size]? = some (.cells #[.int .i64 0, .string ⟨#[]⟩, .slice none 0 0, .slice none 0 0] 25 (0, 0))) := ⟨by rw [hwa]; exact heap_alloc_new _ _⟩
  have HZa : wa.heap.size = w.heap.size + 1 := by rw [hwa]; simp
  have HHW : Aside0 (w.alloc (.cells #[.int .i64 0, .string ⟨#[]⟩, .slice none 0 0, .slice none 0 0] 25) = wa) := ⟨hwa.symm⟩
  obtain ⟨wb, hwb, HBb⟩ : ∃ wb, wb = wa.alloc (.cells #[.string s, .int .i64 0, .int .i64 0, .int .i64 0] 84) ∧ Aside0 (Below wa.heap.size wa wb) := ⟨_, rfl, ⟨below_alloc (Below.refl _ _) _⟩⟩
  have HRb : Aside0 (Rq wb (w.heap.size + 1) s 0 0 0) := ⟨by rw [hwb, ← HZa]; exact heap_alloc_new _ _⟩
  have HNb := Aside0.mk (blk_below HNa.out HBb.out)
  have HHV : Aside0 (wa.alloc (.cells #[.string s, .int .i64 0, .int .i64 0, .int .i64 0] 84) = wb) := ⟨hwb.symm⟩
  have CP : Aside0 (Calls Tryd.prog 55 #[.pointer (some ⟨w.heap.size + 1, 0, none⟩), .int .i64 0] wb (PostP (w.heap.size + 1) s wb (pathS s (backS s 5) 0))) := ⟨path_top (w.heap.size + 1) s wa hs (hT.below HBa.out) (by omega) 0 wb HBb.out HRb.out (Nat.zero_le _)⟩
  have g1 : (s.size : Int) ≤ 600 := by omega
  obtain ⟨b, hb⟩ : ∃ b, w.heap.size + 1 = b := ⟨_, rfl⟩
  rw [hb] at CP HRb HZa
  have hbb : w.heap.size < b := by omega
  have HBB := Aside0.mk hb
  have hzb : b < wb.heap.size := blk_lt HRb.out
  rw [hr] at CP
  clear hr
  clear hwa hwb
  go_enter Tryd.func26, Tryd.ntmps26
  go_upto_region 1 with (fail)
  rw [HHW.out]
  go_upto_region 4 with (fail)
  rw [HHV.out]
  try rw [HZa]
  clear hb
  go_upto_region 5 with (go_at_call 55; (with_reducible refine CP.out.mono ?_); rintro e w2 ⟨k', t', A', n', c', B', m', d', rfl, hk, hok, hno⟩; have HK2 := Aside0.mk hk; have HOK2 := Aside0.mk hok; have HNO2 := Aside0.mk hno; have HP2 := Aside0.mk (hk.blk HNb.out (by omega)); have hz2 := hk.size; clear hk hok hno)
  obtain ⟨w3, hw3, HB3⟩ : ∃ w3, w3 = w2.alloc (.cells #[.int .i64 k', .string t', .slice A' n' c', .slice B' m' d'] 25) ∧ Aside0 (Below w2.heap.size w2 w3) := ⟨_, rfl, ⟨below_alloc (Below.refl _ _) _⟩⟩
  rw [← hw3]
  have HQ3 : Aside0 (w3.heap[w2.heap.size]? = some (.cells #[.int .i64 k', .string t', .slice A' n' c', .slice B' m' d'] 25 (0, 0))) := ⟨by rw [hw3]; exact heap_alloc_new _ _⟩
  have HP3 := Aside0.mk (blk_below HP2.out HB3.out)
  have HK3 := Aside0.mk (HK2.out.trans (Kb.of HB3.out (by omega)))
  have hz3 := HB3.out.size
  have HBw : Aside0 (∀ W, Kb b wb W → Below w.heap.size w W) := ⟨fun W h => (HBa.out.trans (HBb.out.mono (by omega))).trans (h.1.mono (by omega))⟩
  clear hw3
  obtain ⟨he, i3, hr3⟩ := HNO2.out e a rfl
  have CN := Aside0.mk (next_err b s i3 a e w3 (hr3.below HB3.out) he)
  have e1 : (e == 0) = false := by rw [beq_eq_false_iff_ne]; exact he
  have e2 : (e != 0) = true := by rw [bne_iff_ne]; exact he
  clear hr3 he
  go_upto_region 8 with (go_at_call 56; (with_reducible refine CN.out.mono ?_); rintro e w4 ⟨rfl, hr, hk⟩; have HR4 := Aside0.mk hr; have HK4 := Aside0.mk (HK3.out.trans hk); have HKn := Aside0.mk hk; have HP4 := Aside0.mk (hk.blk HP3.out (by omega)); have HQ4 := Aside0.mk (hk.blk HQ3.out (by omega)); obtain ⟨c0, c1, c2, c3, f1, f2, f3⟩ := hr.cells; have q0 := blk_cell HP4.out 0; have q1 := blk_cell HP4.out 1; have q2 := blk_cell HP4.out 2; have q3 := blk_cell HP4.out 3; simp at q0 q1 q2 q3; have k0 := blk_frozen HP4.out 0; have k1 := blk_frozen HP4.out 1; have k2 := blk_frozen HP4.out 2; have k3 := blk_frozen HP4.out 3; have m0 := blk_cell HQ4.out 0; have m1 := blk_cell HQ4.out 1; have m2 := blk_cell HQ4.out 2; have m3 := blk_cell HQ4.out 3; simp at m0 m1 m2 m3; have l0 := blk_frozen HQ4.out 0; have l1 := blk_frozen HQ4.out 1; have l2 := blk_frozen HQ4.out 2; have l3 := blk_frozen HQ4.out 3; clear hr hk)
  clear q0 q1 q2 q3 k0 k1 k2 k3 m0 m1 m2 m3 l0 l1 l2 l3 c0 c1 c2 c3 f1 f2 f3
  have HBd := Aside0.mk (below_drew (HBw.out _ HK4.out))
  have HPd : Aside0 (w4.drew.heap[w.heap.size]? = some (.cells #[.int .i64 0, .string ⟨#[]⟩, .slice none 0 0, .slice none 0 0] 25 (0, 0))) := ⟨HP4.out⟩
  have HRd : Aside0 (Rq w4.drew b s _ e a) := ⟨HR4.out⟩
  have hS : (fun W : World => W.cell? ⟨b, 2, none⟩ = some (.int .i64 e) ∧ W.cell? ⟨b, 3, none⟩ = some (.int .i64 (a : Int))) w4.drew := ⟨HR4.out.cells.2.2.1, HR4.out.cells.2.2.2.1⟩
  refine wp_region_held (S := (fun W : World => W.cell? ⟨b, 2, none⟩ = some (.int .i64 e) ∧ W.cell? ⟨b, 3, none⟩ = some (.int .i64 (a : Int)))) (by kernel_rfl) ?_
  change wpAnyH _ _ _ _ _ _ _ _ w4.drew
  generalize w4.drew = wq at HBd HPd HRd hS ⊢
  have q0 := blk_cell HPd.out 0; have q1 := blk_cell HPd.out 1; have q2 := blk_cell HPd.out 2; have q3 := blk_cell HPd.out 3; simp at q0 q1 q2 q3; have k0 := blk_frozen HPd.out 0; have k1 := blk_frozen HPd.out 1; have k2 := blk_frozen HPd.out 2; have k3 := blk_frozen HPd.out 3
  first | refine tkU 0 hS ?_ | (refine tkV 0 (v := ?_) hS ?_ ?_; rotate_left 1; · (intro w0 hSw; (try dsimp only at hSw); go_split_ands; go_simp; try with_reducible rfl)) | fail
  try simp only [Act.put, pL]
  first | refine tkU 1 hS ?_ | (refine tkV 1 (v := ?_) hS ?_ ?_; rotate_left 1; · (intro w0 hSw; (try dsimp only at hSw); go_split_ands; go_simp; try with_reducible rfl)) | fail
  try simp only [Act.put, pL]
  first | refine tkU 2 hS ?_ | (refine tkV 2 (v := ?_) hS ?_ ?_; rotate_left 1; · (intro w0 hSw; (try dsimp only at hSw); go_split_ands; go_simp; try with_reducible rfl)) | fail
  try simp only [Act.put, pL]
  first | refine tkU 3 hS ?_ | (refine tkV 3 (v := ?_) hS ?_ ?_; rotate_left 1; · (intro w0 hSw; (try dsimp only at hSw); go_split_ands; go_simp; try with_reducible rfl)) | fail
  try simp only [Act.put, pL]
  first | refine tkU 4 hS ?_ | (refine tkV 4 (v := ?_) hS ?_ ?_; rotate_left 1; · (intro w0 hSw; (try dsimp only at hSw); go_split_ands; go_simp; try with_reducible rfl)) | fail
  try simp only [Act.put, pL]
  first | refine tkU 5 hS ?_ | (refine tkV 5 (v := ?_) hS ?_ ?_; rotate_left 1; · (intro w0 hSw; (try dsimp only at hSw); go_split_ands; go_simp; try with_reducible rfl)) | fail
  try simp only [Act.put, pL]
  first | refine tkU 6 hS ?_ | (refine tkV 6 (v := ?_) hS ?_ ?_; rotate_left 1; · (intro w0 hSw; (try dsimp only at hSw); go_split_ands; go_simp; try with_reducible rfl)) | fail
  try simp only [Act.put, pL]
  first | refine tkU 7 hS ?_ | (refine tkV 7 (v := ?_) hS ?_ ?_; rotate_left 1; · (intro w0 hSw; (try dsimp only at hSw); go_split_ands; go_simp; try with_reducible rfl)) | fail
  try simp only [Act.put, pL]
  first | refine tkU 8 hS ?_ | (refine tkV 8 (v := ?_) hS ?_ ?_; rotate_left 1; · (intro w0 hSw; (try dsimp only at hSw); go_split_ands; go_simp; try with_reducible rfl)) | fail
  try simp only [Act.put, pL]
  obtain ⟨wf, hwf, HBf, HNf, HPf, HGf⟩ := fin4b HBd.out (Nat.le_refl _) HPd.out (.int .i64 0) (.string ⟨#[]⟩) (.slice none 0 0) (.slice none 0 0)
  have HRf := Aside0.mk (HGf.out _ _ (by omega) HRd.out)
  refine wpAnyH_ready (rs := [9]) (by kernel_rfl) (by simp) ?_
  refine AllReadyH.cons rfl (fun K hK => ?_) AllReadyH.nil
  go_simp
  rw [← hwf]
  clear hS
  have hS : (fun W : World => W.cell? ⟨b, 2, none⟩ = some (.int .i64 e) ∧ W.cell? ⟨b, 3, none⟩ = some (.int .i64 (a : Int))) wf := ⟨blk_cell HRf.out 2, blk_cell HRf.out 3⟩
  refine hK.out _ _ hS (fun _ => ?_)
  clear hK K hwf
  try simp only [Act.put, List.getElem_toArray, List.getElem_cons_succ, List.getElem_cons_zero, List.setIfInBounds_toArray, List.set_cons_zero, List.set_cons_succ]
  first | refine tkU 10 hS ?_ | (refine tkV 10 (v := ?_) hS ?_ ?_; rotate_left 1; · (intro w0 hSw; (try dsimp only at hSw); go_split_ands; go_simp; try with_reducible rfl)) | fail
  try simp only [Act.put, pL]
  first | refine tkU 11 hS ?_ | (refine tkV 11 (v := ?_) hS ?_ ?_; rotate_left 1; · (intro w0 hSw; (try dsimp only at hSw); go_split_ands; go_simp; try with_reducible rfl)) | fail
  try simp only [Act.put, pL]
  refine wpAnyH_done (by kernel_rfl) ?_ _
  go_wp2_with fail
  have z0 := blk_cell HNf.out 0
  have z1 := blk_cell HNf.out 1
  have z2 := blk_cell HNf.out 2
  have z3 := blk_cell HNf.out 3
  simp at z0 z1 z2 z3
  refine bodyPost_ret (by simp [results, Tryd.results26, go_sem, z0, z1, z2, z3]; try rfl) rfl ?_
  exact ⟨_, _, _, _, _, _, _, _, rfl, HBf.out, path_leaf 0 ⟨#[]⟩⟩
set_option maxRecDepth 100000 in
set_option maxHeartbeats 8000000 in
theorem path_left0 (s : ByteArray) (w : World) (hl : s.size ≤ 600) (hT : Tabs w) (p : Pth) (i : Nat) (hr : pathS s (backS s 5) 0 = .ok p i) (he : skip s i < s.size) (hnx : nx s i = 0) : Calls Tryd.prog 26 #[.string s] w (PostR w (noP, skip s i, 2)) := by
  have hs : s.size ≤ 50000 := by omega
  obtain ⟨wa, hwa, HBa⟩ : ∃ wa, wa = w.alloc (.cells #[.int .i64 0, .string ⟨#[]⟩, .slice none 0 0, .slice none 0 0] 25) ∧ Aside0 (Below w.heap.size w wa) := ⟨_, rfl, ⟨below_alloc (Below.refl _ _) _⟩⟩
  have HNa : Aside0 (wa.heap[w.heap.size]? = some (.cells #[.int .i64 0, .string ⟨#[]⟩, .slice none 0 0, .slice none 0 0] 25 (0, 0))) := ⟨by rw [hwa]; exact heap_alloc_new _ _⟩
  have HZa : wa.heap.size = w.heap.size + 1 := by rw [hwa]; simp
  have HHW : Aside0 (w.alloc (.cells #[.int .i64 0, .string ⟨#[]⟩, .slice none 0 0, .slice none 0 0] 25) = wa) := ⟨hwa.symm⟩
  obtain ⟨wb, hwb, HBb⟩ : ∃ wb, wb = wa.alloc (.cells #[.string s, .int .i64 0, .int .i64 0, .int .i64 0] 84) ∧ Aside0 (Below wa.heap.size wa wb) := ⟨_, rfl, ⟨below_alloc (Below.refl _ _) _⟩⟩
  have HRb : Aside0 (Rq wb (w.heap.size + 1) s 0 0 0) := ⟨by rw [hwb, ← HZa]; exact heap_alloc_new _ _⟩
  have HNb := Aside0.mk (blk_below HNa.out HBb.out)
  have HHV : Aside0 (wa.alloc (.cells #[.string s, .int .i64 0, .int .i64 0, .int .i64 0] 84) = wb) := ⟨hwb.symm⟩
  have CP : Aside0 (Calls Tryd.prog 55 #[.pointer (some ⟨w.heap.size + 1, 0, none⟩), .int .i64 0] wb (PostP (w.heap.size + 1) s wb (pathS s (backS s 5) 0))) := ⟨path_top (w.heap.size + 1) s wa hs (hT.below HBa.out) (by omega) 0 wb HBb.out HRb.out (Nat.zero_le _)⟩
  have g1 : (s.size : Int) ≤ 600 := by omega
  obtain ⟨b, hb⟩ : ∃ b, w.heap.size + 1 = b := ⟨_, rfl⟩
  rw [hb] at CP HRb HZa
  have hbb : w.heap.size < b := by omega
  have HBB := Aside0.mk hb
  have hzb : b < wb.heap.size := blk_lt HRb.out
  rw [hr] at CP
  have hadv := path_adv (back_adv s 5) 0 p i hr
  have HAD := Aside0.mk hadv
  have HNX := Aside0.mk hnx
  obtain ⟨J, hJ⟩ : ∃ J, skip s i = J := ⟨_, rfl⟩
  have HJ := Aside0.mk hJ
  rw [hJ] at he ⊢
  have g2 : (J : Int) < (s.size : Int) := by omega
  clear hr hadv hnx hJ
  clear hwa hwb
  go_enter Tryd.func26, Tryd.ntmps26
  go_upto_region 1 with (fail)
  rw [HHW.out]
  go_upto_region 4 with (fail)
  rw [HHV.out]
  try rw [HZa]
  clear hb
  go_upto_region 5 with (go_at_call 55; (with_reducible refine CP.out.mono ?_); rintro e w2 ⟨k', t', A', n', c', B', m', d', rfl, hk, hok, hno⟩; have HK2 := Aside0.mk hk; have HOK2 := Aside0.mk hok; have HNO2 := Aside0.mk hno; have HP2 := Aside0.mk (hk.blk HNb.out (by omega)); have hz2 := hk.size; clear hk hok hno)
  obtain ⟨w3, hw3, HB3⟩ : ∃ w3, w3 = w2.alloc (.cells #[.int .i64 k', .string t', .slice A' n' c', .slice B' m' d'] 25) ∧ Aside0 (Below w2.heap.size w2 w3) := ⟨_, rfl, ⟨below_alloc (Below.refl _ _) _⟩⟩
  rw [← hw3]
  have HQ3 : Aside0 (w3.heap[w2.heap.size]? = some (.cells #[.int .i64 k', .string t', .slice A' n' c', .slice B' m' d'] 25 (0, 0))) := ⟨by rw [hw3]; exact heap_alloc_new _ _⟩
  have HP3 := Aside0.mk (blk_below HP2.out HB3.out)
  have HK3 := Aside0.mk (HK2.out.trans (Kb.of HB3.out (by omega)))
  have hz3 := HB3.out.size
  have HBw : Aside0 (∀ W, Kb b wb W → Below w.heap.size w W) := ⟨fun W h => (HBa.out.trans (HBb.out.mono (by omega))).trans (h.1.mono (by omega))⟩
  clear hw3
  obtain ⟨hr3, hp3⟩ := HOK2.out p i rfl
  have CN := Aside0.mk (next_ok b s i 0 w3 (hr3.below HB3.out) hs HAD.out.2)
  rw [HJ.out] at CN
  have CF := Aside0.mk (fun W h => fails_ok b s J 0 J 0 2 W h)
  rw [HNX.out] at CN
  simp only [Int.cast_ofNat_Int] at CN
  clear hr3 hp3
  go_upto_region 8 with (first
    | (go_at_call 56; (with_reducible refine CN.out.mono ?_); rintro e w4 ⟨rfl, hr, hk⟩; have HR4 := Aside0.mk hr; have HK4 := Aside0.mk (HK3.out.trans hk); have HKn := Aside0.mk hk; have HP4 := Aside0.mk (hk.blk HP3.out (by omega)); have HQ4 := Aside0.mk (hk.blk HQ3.out (by omega)); obtain ⟨c0, c1, c2, c3, f1, f2, f3⟩ := hr.cells; have q0 := blk_cell HP4.out 0; have q1 := blk_cell HP4.out 1; have q2 := blk_cell HP4.out 2; have q3 := blk_cell HP4.out 3; simp at q0 q1 q2 q3; have k0 := blk_frozen HP4.out 0; have k1 := blk_frozen HP4.out 1; have k2 := blk_frozen HP4.out 2; have k3 := blk_frozen HP4.out 3; have m0 := blk_cell HQ4.out 0; have m1 := blk_cell HQ4.out 1; have m2 := blk_cell HQ4.out 2; have m3 := blk_cell HQ4.out 3; simp at m0 m1 m2 m3; have l0 := blk_frozen HQ4.out 0; have l1 := blk_frozen HQ4.out 1; have l2 := blk_frozen HQ4.out 2; have l3 := blk_frozen HQ4.out 3; clear hr hk)
    | (go_at_call 57; (with_reducible refine (CF.out _ HR4.out).mono ?_); rintro e w5 ⟨rfl, hr, hk⟩; have HR5 := Aside0.mk hr; have HK5 := Aside0.mk (HK4.out.trans hk); have HP5 := Aside0.mk (hk.blk HP4.out (by omega)); clear c0 c1 c2 c3 f1 f2 f3; obtain ⟨c0, c1, c2, c3, f1, f2, f3⟩ := hr.cells; clear hr hk))
  clear q0 q1 q2 q3 k0 k1 k2 k3 m0 m1 m2 m3 l0 l1 l2 l3 c0 c1 c2 c3 f1 f2 f3
  have HBd := Aside0.mk (below_drew (HBw.out _ HK5.out))
  have HPd : Aside0 (w5.drew.heap[w.heap.size]? = some (.cells #[.int .i64 0, .string ⟨#[]⟩, .slice none 0 0, .slice none 0 0] 25 (0, 0))) := ⟨HP5.out⟩
  have HRd : Aside0 (Rq w5.drew b s _ 2 J) := ⟨HR5.out⟩
  have hS : (fun W : World => W.cell? ⟨b, 2, none⟩ = some (.int .i64 2) ∧ W.cell? ⟨b, 3, none⟩ = some (.int .i64 (J : Int))) w5.drew := ⟨HR5.out.cells.2.2.1, HR5.out.cells.2.2.2.1⟩
  refine wp_region_held (S := (fun W : World => W.cell? ⟨b, 2, none⟩ = some (.int .i64 2) ∧ W.cell? ⟨b, 3, none⟩ = some (.int .i64 (J : Int)))) (by kernel_rfl) ?_
  change wpAnyH _ _ _ _ _ _ _ _ w5.drew
  generalize w5.drew = wq at HBd HPd HRd hS ⊢
  have q0 := blk_cell HPd.out 0; have q1 := blk_cell HPd.out 1; have q2 := blk_cell HPd.out 2; have q3 := blk_cell HPd.out 3; simp at q0 q1 q2 q3; have k0 := blk_frozen HPd.out 0; have k1 := blk_frozen HPd.out 1; have k2 := blk_frozen HPd.out 2; have k3 := blk_frozen HPd.out 3
  first | refine tkU 0 hS ?_ | (refine tkV 0 (v := ?_) hS ?_ ?_; rotate_left 1; · (intro w0 hSw; (try dsimp only at hSw); go_split_ands; go_simp; try with_reducible rfl)) | fail
  try simp only [Act.put, pL]
  first | refine tkU 1 hS ?_ | (refine tkV 1 (v := ?_) hS ?_ ?_; rotate_left 1; · (intro w0 hSw; (try dsimp only at hSw); go_split_ands; go_simp; try with_reducible rfl)) | fail
  try simp only [Act.put, pL]
  first | refine tkU 2 hS ?_ | (refine tkV 2 (v := ?_) hS ?_ ?_; rotate_left 1; · (intro w0 hSw; (try dsimp only at hSw); go_split_ands; go_simp; try with_reducible rfl)) | fail
  try simp only [Act.put, pL]
  first | refine tkU 3 hS ?_ | (refine tkV 3 (v := ?_) hS ?_ ?_; rotate_left 1; · (intro w0 hSw; (try dsimp only at hSw); go_split_ands; go_simp; try with_reducible rfl)) | fail
  try simp only [Act.put, pL]
  first | refine tkU 4 hS ?_ | (refine tkV 4 (v := ?_) hS ?_ ?_; rotate_left 1; · (intro w0 hSw; (try dsimp only at hSw); go_split_ands; go_simp; try with_reducible rfl)) | fail
  try simp only [Act.put, pL]
  first | refine tkU 5 hS ?_ | (refine tkV 5 (v := ?_) hS ?_ ?_; rotate_left 1; · (intro w0 hSw; (try dsimp only at hSw); go_split_ands; go_simp; try with_reducible rfl)) | fail
  try simp only [Act.put, pL]
  first | refine tkU 6 hS ?_ | (refine tkV 6 (v := ?_) hS ?_ ?_; rotate_left 1; · (intro w0 hSw; (try dsimp only at hSw); go_split_ands; go_simp; try with_reducible rfl)) | fail
  try simp only [Act.put, pL]
  first | refine tkU 7 hS ?_ | (refine tkV 7 (v := ?_) hS ?_ ?_; rotate_left 1; · (intro w0 hSw; (try dsimp only at hSw); go_split_ands; go_simp; try with_reducible rfl)) | fail
  try simp only [Act.put, pL]
  first | refine tkU 8 hS ?_ | (refine tkV 8 (v := ?_) hS ?_ ?_; rotate_left 1; · (intro w0 hSw; (try dsimp only at hSw); go_split_ands; go_simp; try with_reducible rfl)) | fail
  try simp only [Act.put, pL]
  obtain ⟨wf, hwf, HBf, HNf, HPf, HGf⟩ := fin4b HBd.out (Nat.le_refl _) HPd.out (.int .i64 0) (.string ⟨#[]⟩) (.slice none 0 0) (.slice none 0 0)
  have HRf := Aside0.mk (HGf.out _ _ (by omega) HRd.out)
  refine wpAnyH_ready (rs := [9]) (by kernel_rfl) (by simp) ?_
  refine AllReadyH.cons rfl (fun K hK => ?_) AllReadyH.nil
  go_simp
  rw [← hwf]
  clear hS
  have hS : (fun W : World => W.cell? ⟨b, 2, none⟩ = some (.int .i64 2) ∧ W.cell? ⟨b, 3, none⟩ = some (.int .i64 (J : Int))) wf := ⟨blk_cell HRf.out 2, blk_cell HRf.out 3⟩
  refine hK.out _ _ hS (fun _ => ?_)
  clear hK K hwf
  try simp only [Act.put, List.getElem_toArray, List.getElem_cons_succ, List.getElem_cons_zero, List.setIfInBounds_toArray, List.set_cons_zero, List.set_cons_succ]
  first | refine tkU 10 hS ?_ | (refine tkV 10 (v := ?_) hS ?_ ?_; rotate_left 1; · (intro w0 hSw; (try dsimp only at hSw); go_split_ands; go_simp; try with_reducible rfl)) | fail
  try simp only [Act.put, pL]
  first | refine tkU 11 hS ?_ | (refine tkV 11 (v := ?_) hS ?_ ?_; rotate_left 1; · (intro w0 hSw; (try dsimp only at hSw); go_split_ands; go_simp; try with_reducible rfl)) | fail
  try simp only [Act.put, pL]
  refine wpAnyH_done (by kernel_rfl) ?_ _
  go_wp2_with fail
  have z0 := blk_cell HNf.out 0
  have z1 := blk_cell HNf.out 1
  have z2 := blk_cell HNf.out 2
  have z3 := blk_cell HNf.out 3
  simp at z0 z1 z2 z3
  refine bodyPost_ret (by simp [results, Tryd.results26, go_sem, z0, z1, z2, z3]; try rfl) rfl ?_
  exact ⟨_, _, _, _, _, _, _, _, rfl, HBf.out, path_leaf 0 ⟨#[]⟩⟩
set_option maxRecDepth 100000 in
set_option maxHeartbeats 8000000 in
theorem path_left1 (s : ByteArray) (w : World) (hl : s.size ≤ 600) (hT : Tabs w) (p : Pth) (i : Nat) (hr : pathS s (backS s 5) 0 = .ok p i) (he : skip s i < s.size) (hnx : nx s i ≠ 0) : Calls Tryd.prog 26 #[.string s] w (PostR w (noP, skip s i, 2)) := by
  have hs : s.size ≤ 50000 := by omega
  obtain ⟨wa, hwa, HBa⟩ : ∃ wa, wa = w.alloc (.cells #[.int .i64 0, .string ⟨#[]⟩, .slice none 0 0, .slice none 0 0] 25) ∧ Aside0 (Below w.heap.size w wa) := ⟨_, rfl, ⟨below_alloc (Below.refl _ _) _⟩⟩
  have HNa : Aside0 (wa.heap[w.heap.size]? = some (.cells #[.int .i64 0, .string ⟨#[]⟩, .slice none 0 0, .slice none 0 0] 25 (0, 0))) := ⟨by rw [hwa]; exact heap_alloc_new _ _⟩
  have HZa : wa.heap.size = w.heap.size + 1 := by rw [hwa]; simp
  have HHW : Aside0 (w.alloc (.cells #[.int .i64 0, .string ⟨#[]⟩, .slice none 0 0, .slice none 0 0] 25) = wa) := ⟨hwa.symm⟩
  obtain ⟨wb, hwb, HBb⟩ : ∃ wb, wb = wa.alloc (.cells #[.string s, .int .i64 0, .int .i64 0, .int .i64 0] 84) ∧ Aside0 (Below wa.heap.size wa wb) := ⟨_, rfl, ⟨below_alloc (Below.refl _ _) _⟩⟩
  have HRb : Aside0 (Rq wb (w.heap.size + 1) s 0 0 0) := ⟨by rw [hwb, ← HZa]; exact heap_alloc_new _ _⟩
  have HNb := Aside0.mk (blk_below HNa.out HBb.out)
  have HHV : Aside0 (wa.alloc (.cells #[.string s, .int .i64 0, .int .i64 0, .int .i64 0] 84) = wb) := ⟨hwb.symm⟩
  have CP : Aside0 (Calls Tryd.prog 55 #[.pointer (some ⟨w.heap.size + 1, 0, none⟩), .int .i64 0] wb (PostP (w.heap.size + 1) s wb (pathS s (backS s 5) 0))) := ⟨path_top (w.heap.size + 1) s wa hs (hT.below HBa.out) (by omega) 0 wb HBb.out HRb.out (Nat.zero_le _)⟩
  have g1 : (s.size : Int) ≤ 600 := by omega
  obtain ⟨b, hb⟩ : ∃ b, w.heap.size + 1 = b := ⟨_, rfl⟩
  rw [hb] at CP HRb HZa
  have hbb : w.heap.size < b := by omega
  have HBB := Aside0.mk hb
  have hzb : b < wb.heap.size := blk_lt HRb.out
  rw [hr] at CP
  have hadv := path_adv (back_adv s 5) 0 p i hr
  have HAD := Aside0.mk hadv
  have HNX := Aside0.mk hnx
  obtain ⟨J, hJ⟩ : ∃ J, skip s i = J := ⟨_, rfl⟩
  have HJ := Aside0.mk hJ
  rw [hJ] at he ⊢
  have g2 : (J : Int) < (s.size : Int) := by omega
  clear hr hadv hnx hJ
  clear hwa hwb
  go_enter Tryd.func26, Tryd.ntmps26
  go_upto_region 1 with (fail)
  rw [HHW.out]
  go_upto_region 4 with (fail)
  rw [HHV.out]
  try rw [HZa]
  clear hb
  go_upto_region 5 with (go_at_call 55; (with_reducible refine CP.out.mono ?_); rintro e w2 ⟨k', t', A', n', c', B', m', d', rfl, hk, hok, hno⟩; have HK2 := Aside0.mk hk; have HOK2 := Aside0.mk hok; have HNO2 := Aside0.mk hno; have HP2 := Aside0.mk (hk.blk HNb.out (by omega)); have hz2 := hk.size; clear hk hok hno)
  obtain ⟨w3, hw3, HB3⟩ : ∃ w3, w3 = w2.alloc (.cells #[.int .i64 k', .string t', .slice A' n' c', .slice B' m' d'] 25) ∧ Aside0 (Below w2.heap.size w2 w3) := ⟨_, rfl, ⟨below_alloc (Below.refl _ _) _⟩⟩
  rw [← hw3]
  have HQ3 : Aside0 (w3.heap[w2.heap.size]? = some (.cells #[.int .i64 k', .string t', .slice A' n' c', .slice B' m' d'] 25 (0, 0))) := ⟨by rw [hw3]; exact heap_alloc_new _ _⟩
  have HP3 := Aside0.mk (blk_below HP2.out HB3.out)
  have HK3 := Aside0.mk (HK2.out.trans (Kb.of HB3.out (by omega)))
  have hz3 := HB3.out.size
  have HBw : Aside0 (∀ W, Kb b wb W → Below w.heap.size w W) := ⟨fun W h => (HBa.out.trans (HBb.out.mono (by omega))).trans (h.1.mono (by omega))⟩
  clear hw3
  obtain ⟨hr3, hp3⟩ := HOK2.out p i rfl
  have CN := Aside0.mk (next_ok b s i 0 w3 (hr3.below HB3.out) hs HAD.out.2)
  rw [HJ.out] at CN
  have CF := Aside0.mk (fun W h => fails_ok b s J 0 J 0 2 W h)
  obtain ⟨x, hx⟩ : ∃ x, nx s i = x := ⟨_, rfl⟩
  have hxn := HNX.out
  rw [hx] at CN hxn
  have hxb : ((x : Int) != 0) = true := by rw [bne_iff_ne]; omega
  clear hx hxn
  clear hr3 hp3
  go_upto_region 8 with (first
    | (go_at_call 56; (with_reducible refine CN.out.mono ?_); rintro e w4 ⟨rfl, hr, hk⟩; have HR4 := Aside0.mk hr; have HK4 := Aside0.mk (HK3.out.trans hk); have HKn := Aside0.mk hk; have HP4 := Aside0.mk (hk.blk HP3.out (by omega)); have HQ4 := Aside0.mk (hk.blk HQ3.out (by omega)); obtain ⟨c0, c1, c2, c3, f1, f2, f3⟩ := hr.cells; have q0 := blk_cell HP4.out 0; have q1 := blk_cell HP4.out 1; have q2 := blk_cell HP4.out 2; have q3 := blk_cell HP4.out 3; simp at q0 q1 q2 q3; have k0 := blk_frozen HP4.out 0; have k1 := blk_frozen HP4.out 1; have k2 := blk_frozen HP4.out 2; have k3 := blk_frozen HP4.out 3; have m0 := blk_cell HQ4.out 0; have m1 := blk_cell HQ4.out 1; have m2 := blk_cell HQ4.out 2; have m3 := blk_cell HQ4.out 3; simp at m0 m1 m2 m3; have l0 := blk_frozen HQ4.out 0; have l1 := blk_frozen HQ4.out 1; have l2 := blk_frozen HQ4.out 2; have l3 := blk_frozen HQ4.out 3; clear hr hk)
    | (go_at_call 57; (with_reducible refine (CF.out _ HR4.out).mono ?_); rintro e w5 ⟨rfl, hr, hk⟩; have HR5 := Aside0.mk hr; have HK5 := Aside0.mk (HK4.out.trans hk); have HP5 := Aside0.mk (hk.blk HP4.out (by omega)); clear c0 c1 c2 c3 f1 f2 f3; obtain ⟨c0, c1, c2, c3, f1, f2, f3⟩ := hr.cells; clear hr hk))
  clear q0 q1 q2 q3 k0 k1 k2 k3 m0 m1 m2 m3 l0 l1 l2 l3 c0 c1 c2 c3 f1 f2 f3
  have HBd := Aside0.mk (below_drew (HBw.out _ HK5.out))
  have HPd : Aside0 (w5.drew.heap[w.heap.size]? = some (.cells #[.int .i64 0, .string ⟨#[]⟩, .slice none 0 0, .slice none 0 0] 25 (0, 0))) := ⟨HP5.out⟩
  have HRd : Aside0 (Rq w5.drew b s _ 2 J) := ⟨HR5.out⟩
  have hS : (fun W : World => W.cell? ⟨b, 2, none⟩ = some (.int .i64 2) ∧ W.cell? ⟨b, 3, none⟩ = some (.int .i64 (J : Int))) w5.drew := ⟨HR5.out.cells.2.2.1, HR5.out.cells.2.2.2.1⟩
  refine wp_region_held (S := (fun W : World => W.cell? ⟨b, 2, none⟩ = some (.int .i64 2) ∧ W.cell? ⟨b, 3, none⟩ = some (.int .i64 (J : Int)))) (by kernel_rfl) ?_
  change wpAnyH _ _ _ _ _ _ _ _ w5.drew
  generalize w5.drew = wq at HBd HPd HRd hS ⊢
  have q0 := blk_cell HPd.out 0; have q1 := blk_cell HPd.out 1; have q2 := blk_cell HPd.out 2; have q3 := blk_cell HPd.out 3; simp at q0 q1 q2 q3; have k0 := blk_frozen HPd.out 0; have k1 := blk_frozen HPd.out 1; have k2 := blk_frozen HPd.out 2; have k3 := blk_frozen HPd.out 3
  first | refine tkU 0 hS ?_ | (refine tkV 0 (v := ?_) hS ?_ ?_; rotate_left 1; · (intro w0 hSw; (try dsimp only at hSw); go_split_ands; go_simp; try with_reducible rfl)) | fail
  try simp only [Act.put, pL]
  first | refine tkU 1 hS ?_ | (refine tkV 1 (v := ?_) hS ?_ ?_; rotate_left 1; · (intro w0 hSw; (try dsimp only at hSw); go_split_ands; go_simp; try with_reducible rfl)) | fail
  try simp only [Act.put, pL]
  first | refine tkU 2 hS ?_ | (refine tkV 2 (v := ?_) hS ?_ ?_; rotate_left 1; · (intro w0 hSw; (try dsimp only at hSw); go_split_ands; go_simp; try with_reducible rfl)) | fail
  try simp only [Act.put, pL]
  first | refine tkU 3 hS ?_ | (refine tkV 3 (v := ?_) hS ?_ ?_; rotate_left 1; · (intro w0 hSw; (try dsimp only at hSw); go_split_ands; go_simp; try with_reducible rfl)) | fail
  try simp only [Act.put, pL]
  first | refine tkU 4 hS ?_ | (refine tkV 4 (v := ?_) hS ?_ ?_; rotate_left 1; · (intro w0 hSw; (try dsimp only at hSw); go_split_ands; go_simp; try with_reducible rfl)) | fail
  try simp only [Act.put, pL]
  first | refine tkU 5 hS ?_ | (refine tkV 5 (v := ?_) hS ?_ ?_; rotate_left 1; · (intro w0 hSw; (try dsimp only at hSw); go_split_ands; go_simp; try with_reducible rfl)) | fail
  try simp only [Act.put, pL]
  first | refine tkU 6 hS ?_ | (refine tkV 6 (v := ?_) hS ?_ ?_; rotate_left 1; · (intro w0 hSw; (try dsimp only at hSw); go_split_ands; go_simp; try with_reducible rfl)) | fail
  try simp only [Act.put, pL]
  first | refine tkU 7 hS ?_ | (refine tkV 7 (v := ?_) hS ?_ ?_; rotate_left 1; · (intro w0 hSw; (try dsimp only at hSw); go_split_ands; go_simp; try with_reducible rfl)) | fail
  try simp only [Act.put, pL]
  first | refine tkU 8 hS ?_ | (refine tkV 8 (v := ?_) hS ?_ ?_; rotate_left 1; · (intro w0 hSw; (try dsimp only at hSw); go_split_ands; go_simp; try with_reducible rfl)) | fail
  try simp only [Act.put, pL]
  obtain ⟨wf, hwf, HBf, HNf, HPf, HGf⟩ := fin4b HBd.out (Nat.le_refl _) HPd.out (.int .i64 0) (.string ⟨#[]⟩) (.slice none 0 0) (.slice none 0 0)
  have HRf := Aside0.mk (HGf.out _ _ (by omega) HRd.out)
  refine wpAnyH_ready (rs := [9]) (by kernel_rfl) (by simp) ?_
  refine AllReadyH.cons rfl (fun K hK => ?_) AllReadyH.nil
  go_simp
  rw [← hwf]
  clear hS
  have hS : (fun W : World => W.cell? ⟨b, 2, none⟩ = some (.int .i64 2) ∧ W.cell? ⟨b, 3, none⟩ = some (.int .i64 (J : Int))) wf := ⟨blk_cell HRf.out 2, blk_cell HRf.out 3⟩
  refine hK.out _ _ hS (fun _ => ?_)
  clear hK K hwf
  try simp only [Act.put, List.getElem_toArray, List.getElem_cons_succ, List.getElem_cons_zero, List.setIfInBounds_toArray, List.set_cons_zero, List.set_cons_succ]
  first | refine tkU 10 hS ?_ | (refine tkV 10 (v := ?_) hS ?_ ?_; rotate_left 1; · (intro w0 hSw; (try dsimp only at hSw); go_split_ands; go_simp; try with_reducible rfl)) | fail
  try simp only [Act.put, pL]
  first | refine tkU 11 hS ?_ | (refine tkV 11 (v := ?_) hS ?_ ?_; rotate_left 1; · (intro w0 hSw; (try dsimp only at hSw); go_split_ands; go_simp; try with_reducible rfl)) | fail
  try simp only [Act.put, pL]
  refine wpAnyH_done (by kernel_rfl) ?_ _
  go_wp2_with fail
  have z0 := blk_cell HNf.out 0
  have z1 := blk_cell HNf.out 1
  have z2 := blk_cell HNf.out 2
  have z3 := blk_cell HNf.out 3
  simp at z0 z1 z2 z3
  refine bodyPost_ret (by simp [results, Tryd.results26, go_sem, z0, z1, z2, z3]; try rfl) rfl ?_
  exact ⟨_, _, _, _, _, _, _, _, rfl, HBf.out, path_leaf 0 ⟨#[]⟩⟩
theorem read_any (s : ByteArray) (w : World) (hs : s.size ≤ 50000) (hT : Tabs w) : Calls Tryd.prog 26 #[.string s] w (PostR w (readS s)) := by
  unfold readS
  by_cases hl : 600 < s.size
  · rw [if_pos hl]
    exact path_long s w hl hs
  · rw [if_neg hl]
    cases hr : pathS s (backS s 5) 0 with
    | ok p i =>
      simp only
      by_cases he : skip s i < s.size
      · rw [if_pos he]
        by_cases hn : nx s i = 0
        · exact path_left0 s w (by omega) hT p i hr he hn
        · exact path_left1 s w (by omega) hT p i hr he hn
      · rw [if_neg he]
        exact path_ok s w (by omega) hT p i hr he
    | no e a => exact path_err s w (by omega) hT e a hr
end Go.Proofs.YtbaegfjoionojaaDoor.Qy
