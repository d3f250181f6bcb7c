/- The walks of the reader's has, and of blanks where nothing is left. -/
import Derived.Test.YtmenjcjpihpjjaaDoorTmZ
import Derived.Handy
set_option linter.unusedSimpArgs false
set_option linter.unusedVariables false
namespace Go.Proofs.YtmenjcjpihpjjaaDoor.Tm
open Go Go.RowKit Go.Shelf Go.Proofs.YtmenjcjpihpjjaaDoorW.PrintWords

def hasB (s p : ByteArray) : Bool := decide (p.size ≤ s.size) && ((s.extract 0 p.size).toList == p.toList)
set_option maxRecDepth 100000 in
set_option maxHeartbeats 2000000 in
theorem has_any (b : Nat) (s p : ByteArray) (w : World) (hR : Rd w b s) (hs : s.size ≤ 50000) (hp : p.size ≤ 50000) : Calls Tryd.prog 52 #[.pointer (some ⟨b, 0, none⟩), .string p] w fun e w' => e = .returned (.bool (hasB s p)) ∧ w' = w := by
  obtain ⟨c0, c1, f0⟩ := hR.cells
  have g1 : (s.size : Int) ≤ 50000 := by omega
  have g2 : (p.size : Int) ≤ 50000 := by omega
  clear hR
  by_cases h : p.size ≤ s.size
  · have g3 : (p.size : Int) ≤ (s.size : Int) := by omega
    have HE : Aside0 (hasB s p = ((s.extract 0 p.size).toList == p.toList)) := ⟨by unfold hasB; rw [decide_eq_true h]; rfl⟩
    clear h
    go_enter Tryd.func52, Tryd.ntmps52
    go_wp2_with fail
    go_ret
    exact ⟨ret_b HE.out.symm, rfl⟩
  · have g3 : (s.size : Int) < (p.size : Int) := by omega
    have HE : Aside0 (hasB s p = false) := ⟨by unfold hasB; rw [decide_eq_false h]; rfl⟩
    clear h
    go_enter Tryd.func52, Tryd.ntmps52
    go_wp2_with fail
    go_ret
    exact ⟨ret_b HE.out.symm, rfl⟩
set_option maxRecDepth 100000 in
set_option maxHeartbeats 2000000 in
theorem blanks_none (b : Nat) (w : World) (hR : Rd w b ⟨#[]⟩) : Calls Tryd.prog 57 #[.pointer (some ⟨b, 0, none⟩)] w fun e w' => e = .returned (.tuple #[]) ∧ w' = w := by
  obtain ⟨c0, c1, f0⟩ := hR.cells
  have HW : Aside0 (w.cell? ⟨b, 0, none⟩ = some (.string ⟨#[]⟩)) := ⟨c0⟩
  clear hR
  go_enter Tryd.func57, Tryd.ntmps57
  go_wp2_with fail
  go_loopw [2] (fun x wr => Aside0 (wr = w)) (fun _ _ => 0)
  case atStart => exact ⟨rfl⟩
  case round =>
    obtain rfl := hrel.out
    go_wp2_with fail
    go_returns
    exact ⟨rfl, rfl⟩
theorem Rd.far {w : World} {b : Nat} {s : ByteArray} (h : Rd w b s) {p : Addr} (hp : b ≠ p.block) (v : Value) : Rd (w.setCell p v) b s := blk_far h hp v
theorem Kp.far {R b : Nat} {w0 w : World} (h : Kp R b w0 w) (hb : b < R) {p : Addr} (hp : R ≤ p.block) (v : Value) : Kp R b w0 (w.setCell p v) := ⟨h.1.setCell (by omega) _, fun i hi hn => (Below.heap_setCell w p _ i (by omega)).trans (h.2 i hi hn)⟩
/-- A block of three cells, written whole. -/
theorem three_set {w : World} {A : Nat} {t : TypeId} {u0 u1 u2 : Value} (h : w.heap[A]? = some (.cells #[u0, u1, u2] t (0, 0))) (v0 v1 v2 : Value) :
    (((w.setCell ⟨A, 0, none⟩ v0).setCell ⟨A, 1, none⟩ v1).setCell ⟨A, 2, none⟩ v2).heap[A]? = some (.cells #[v0, v1, v2] t (0, 0)) :=
  blk_set (blk_set (blk_set h 0 v0) 1 v1) 2 v2
set_option maxRecDepth 100000 in
set_option maxHeartbeats 2000000 in
theorem literal_plain (b : Nat) (s : ByteArray) (l : List UInt8) (w : World) (hR : Rd w b s) (h : s.data.toList = qL l ++ [34]) (hs2 : s.size ≤ 50000) :
    Calls Tryd.prog 55 #[.pointer (some ⟨b, 0, none⟩)] w fun e w' => e = .returned (.agg #[.int .i64 3, .string ⟨l.toArray⟩, .string ⟨#[]⟩]) ∧ Rd w' b ⟨#[]⟩ ∧ Kp w.heap.size b w w' := by
  have hbl := blk_lt hR
  obtain ⟨wa, hwa, HA⟩ : ∃ wa, wa = w.alloc (.cells #[.int .i64 0, .string ⟨#[]⟩, .string ⟨#[]⟩] 24) ∧ Aside0 (Below w.heap.size w wa) := ⟨_, rfl, ⟨below_alloc (Below.refl _ _) _⟩⟩
  have hza : wa.heap.size = w.heap.size + 1 := by rw [hwa]; simp
  have HR := Aside0.mk (hR.below HA.out)
  have HN : Aside0 (wa.heap[w.heap.size]? = some (.cells #[.int .i64 0, .string ⟨#[]⟩, .string ⟨#[]⟩] 24 (0, 0))) := ⟨by rw [hwa]; exact heap_alloc_new _ _⟩
  have CU := Aside0.mk (upTo_34 b s l [] wa HR.out h hs2 (fun _ _ => trivial))
  have H1 : hasB ⟨#[]⟩ ⟨#[64]⟩ = false := by decide +kernel
  have H2 : hasB ⟨#[]⟩ ⟨#[94, 94, 60]⟩ = false := by decide +kernel
  have CH : Aside0 (∀ W, Rd W b ⟨#[]⟩ → Calls Tryd.prog 52 #[.pointer (some ⟨b, 0, none⟩), .string ⟨#[64]⟩] W fun e w' => e = .returned (.bool false) ∧ w' = W) := ⟨fun W hr => by
    have := has_any b ⟨#[]⟩ ⟨#[64]⟩ W hr (by decide) (by decide)
    rwa [H1] at this⟩
  have CH2 : Aside0 (∀ W, Rd W b ⟨#[]⟩ → Calls Tryd.prog 52 #[.pointer (some ⟨b, 0, none⟩), .string ⟨#[94, 94, 60]⟩] W fun e w' => e = .returned (.bool false) ∧ w' = W) := ⟨fun W hr => by
    have := has_any b ⟨#[]⟩ ⟨#[94, 94, 60]⟩ W hr (by decide) (by decide)
    rwa [H2] at this⟩
  have HWA := Aside0.mk hwa
  have HZA := Aside0.mk hza
  clear hR h H1 H2 HR hwa hza
  go_enter Tryd.func55, Tryd.ntmps55
  go_upto_region 2 with (go_at_call 53; rw [← HWA.out]; (with_reducible refine CU.out.mono ?_); rintro e w1 ⟨rfl, hr, hk⟩; have HR1 := Aside0.mk hr; have HK1 := Aside0.mk hk; clear hr hk)
  obtain ⟨wt, hwt, HT⟩ := boxT w1 3 ⟨l.toArray⟩ ⟨#[]⟩
  rw [← hwt]
  have hn1 : w1.heap[w.heap.size]? = some (.cells #[.int .i64 0, .string ⟨#[]⟩, .string ⟨#[]⟩] 24 (0, 0)) := (HK1.out.2 w.heap.size (by rw [HZA.out]; omega) (by omega)).trans HN.out
  have hnt : wt.heap[w.heap.size]? = some (.cells #[.int .i64 0, .string ⟨#[]⟩, .string ⟨#[]⟩] 24 (0, 0)) := (HT.out.block _ (blk_lt hn1)).trans hn1
  have HXt : Aside0 (BoxedT wt w1.heap.size 3 ⟨l.toArray⟩ ⟨#[]⟩) := ⟨by rw [hwt]; exact BoxedT.new w1 _ _ _ _⟩
  have HRt := Aside0.mk (HR1.out.below HT.out)
  have HKt : Aside0 (Kp w.heap.size b w wt) := ⟨(HA.out.mono (by omega)).trans ((HK1.out.1).trans (HT.out.mono (by have := HK1.out.1.size; have := HA.out.size; omega))), fun i hi hn => (HT.out.block i (by have := HK1.out.1.size; have := HA.out.size; omega)).trans ((HK1.out.2 i (by have := HA.out.size; omega) hn).trans (HA.out.block i hi))⟩
  obtain ⟨x0, x1, x2⟩ := HXt.out
  have f0 := blk_frozen hnt 0
  have f1 := blk_frozen hnt 1
  have f2 := blk_frozen hnt 2
  have n0 := blk_cell hnt 0
  have n1 := blk_cell hnt 1
  have n2 := blk_cell hnt 2
  simp at n0 n1 n2
  have HNT := Aside0.mk hnt
  clear hwt hn1 hnt
  go_wp2_with (go_at_call 52; first
    | ((with_reducible refine (CH.out _ HRt.out).mono ?_); rintro e w2 ⟨rfl, rfl⟩)
    | ((with_reducible refine (CH2.out _ HRt.out).mono ?_); rintro e w2 ⟨rfl, rfl⟩))
  have hf := three_set HNT.out (.int .i64 3) (.string ⟨l.toArray⟩) (.string ⟨#[]⟩)
  have HRf : Aside0 (Rd _ b ⟨#[]⟩) := ⟨((HRt.out.far (p := ⟨w.heap.size, 0, none⟩) (by show b ≠ w.heap.size; omega) (.int .i64 3)).far (p := ⟨w.heap.size, 1, none⟩) (by show b ≠ w.heap.size; omega) (.string ⟨l.toArray⟩)).far (p := ⟨w.heap.size, 2, none⟩) (by show b ≠ w.heap.size; omega) (.string ⟨#[]⟩)⟩
  have HKf : Aside0 (Kp w.heap.size b w _) := ⟨((HKt.out.far hbl (p := ⟨w.heap.size, 0, none⟩) (Nat.le_refl _) (.int .i64 3)).far hbl (p := ⟨w.heap.size, 1, none⟩) (Nat.le_refl _) (.string ⟨l.toArray⟩)).far hbl (p := ⟨w.heap.size, 2, none⟩) (Nat.le_refl _) (.string ⟨#[]⟩)⟩
  generalize ((w2.setCell ⟨w.heap.size, 0, none⟩ (.int .i64 3)).setCell ⟨w.heap.size, 1, none⟩ (.string ⟨l.toArray⟩)).setCell ⟨w.heap.size, 2, none⟩ (.string ⟨#[]⟩) = wf at hf HRf HKf ⊢
  have z0 := blk_cell hf 0
  have z1 := blk_cell hf 1
  have z2 := blk_cell hf 2
  simp at z0 z1 z2
  clear hf
  refine bodyPost_ret (by simp [results, Tryd.results55, go_sem, z0, z1, z2]; try rfl) rfl ?_
  exact ⟨rfl, HRf.out, HKf.out⟩
end Go.Proofs.YtmenjcjpihpjjaaDoor.Tm
