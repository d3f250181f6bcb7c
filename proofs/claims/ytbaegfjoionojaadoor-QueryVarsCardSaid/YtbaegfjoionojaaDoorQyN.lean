/- The walk of the law's known. -/
import Derived.Test.YtbaegfjoionojaaDoorQyI
set_option linter.unusedSimpArgs false
set_option linter.unusedVariables false
namespace Go.Proofs.YtbaegfjoionojaaDoor.Qy
open Go Go.RowKit Go.Proofs.YtbaegfjoionojaaDoor.Tm Go.Proofs.YtbaegfjoionojaaDoorW.PrintWords

def kT : ByteArray := ⟨#[60, 97, 62, 47, 60, 98, 62, 124, 60, 99, 62, 42]⟩
def kP : Pth := .mk 4 ⟨#[]⟩ [] [.mk 3 ⟨#[]⟩ [] [.mk 1 ⟨#[97]⟩ [] [], .mk 1 ⟨#[98]⟩ [] []], .mk 5 ⟨#[]⟩ [] [.mk 1 ⟨#[99]⟩ [] []]]
theorem read_known : readS kT = (kP, 12, 0) := by kernel_rfl
theorem count_known : countP kP 0 = some 6 := by kernel_rfl
theorem show_known : showB kP = ⟨#[40, 60, 97, 62, 47, 60, 98, 62, 41, 124, 40, 60, 99, 62, 42, 41]⟩ := by kernel_rfl
set_option maxRecDepth 100000 in
set_option maxHeartbeats 4000000 in
theorem known_any (w : World) (hT : Tabs w) : Calls Tryd.prog 28 #[] w fun e w' => e = .returned (.bool true) ∧ Below w.heap.size w w' := by
  have CR := Aside0.mk (read_any kT w (by decide) hT)
  rw [read_known] at CR
  have HT0 := Aside0.mk hT
  unfold kT at CR
  clear hT
  go_enter Tryd.func28, Tryd.ntmps28
  go_upto_region 2 with (go_at_call 26; (with_reducible refine CR.out.mono ?_); rintro e w1 ⟨k', t', A', n', c', B', m', d', rfl, hb, hp⟩; have HB1 := Aside0.mk hb; have HPA := Aside0.mk hp; have HT1 := Aside0.mk (HT0.out.below hb); clear hb hp)
  obtain ⟨A1, c1, B1, d1, e0, -⟩ := path_cells HPA.out
  simp only [List.cons.injEq, Value.int.injEq, Value.string.injEq, Value.slice.injEq, true_and, and_true] at e0
  obtain ⟨rfl, rfl, ⟨rfl, rfl, rfl⟩, rfl, rfl, rfl⟩ := e0
  obtain ⟨w2, hw2, HB2, HN2⟩ := boxP w1 4 ⟨#[]⟩ A' ([] : List ByteArray).length c' B' [Pth.mk 3 ⟨#[]⟩ [] [Pth.mk 1 ⟨#[97]⟩ [] [], Pth.mk 1 ⟨#[98]⟩ [] []], Pth.mk 5 ⟨#[]⟩ [] [Pth.mk 1 ⟨#[99]⟩ [] []]].length d'
  first | rw [← hw2] | (simp only [List.length_nil, List.length_cons, Nat.zero_add, Nat.reduceAdd] at hw2; rw [← hw2])
  have CS := Aside0.mk (show_any kP 0 6 count_known (by decide))
  have CI := Aside0.mk (isPath_yes kP 6 count_known (by decide))
  rw [show_known] at CS
  have HPA2 := Aside0.mk (PathAt.below HPA.out HB2.out)
  have HT2 := Aside0.mk (HT1.out.below HB2.out)
  have HB02 := Aside0.mk (below_then HB1.out HB1.out.size HB2.out)
  have q0 := blk_cell HN2.out 0
  have q1 := blk_cell HN2.out 1
  have q2 := blk_cell HN2.out 2
  have q3 := blk_cell HN2.out 3
  simp at q0 q1 q2 q3
  clear hw2
  go_wp2_with (first
    | (go_at_call 25; refine (CS.out _ _ _ _ _ _ _ _ _ _ HPA2.out).mono ?_; rintro e w3 ⟨rfl, hb⟩; have HB3 := Aside0.mk (below_then HB02.out HB02.out.size hb); have HPA3 := Aside0.mk (PathAt.below HPA2.out hb); have HT3 := Aside0.mk (HT2.out.below hb); have HN3 := Aside0.mk (blk_below HN2.out hb); have z0 := blk_cell HN3.out 0; have z1 := blk_cell HN3.out 1; have z2 := blk_cell HN3.out 2; have z3 := blk_cell HN3.out 3; simp at z0 z1 z2 z3; clear hb)
    | (go_at_call 32; refine (CI.out _ _ _ _ _ _ _ _ _ _ HPA3.out HT3.out).mono ?_; rintro e w4 ⟨rfl, hb⟩; have HB4 := Aside0.mk (below_then HB3.out HB3.out.size hb); clear hb))
  go_ret
  exact ⟨rfl, HB4.out⟩
end Go.Proofs.YtbaegfjoionojaaDoor.Qy
