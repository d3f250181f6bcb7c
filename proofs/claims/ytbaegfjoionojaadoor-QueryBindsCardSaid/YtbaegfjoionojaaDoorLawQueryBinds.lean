/- The law QueryBinds: ^ binds closest, then what stands behind, then /, then |. -/
import Derived.Test.YtbaegfjoionojaaDoorQyS
set_option linter.unusedSimpArgs false
set_option linter.unusedVariables false
namespace Go.Proofs.YtbaegfjoionojaaDoor.Qy
open Go Go.RowKit Go.Proofs.YtbaegfjoionojaaDoor.Tm Go.Proofs.YtbaegfjoionojaaDoorW.PrintWords

def bp0 : Pth := .mk 5 ⟨#[]⟩ [] [.mk 2 ⟨#[]⟩ [] [.mk 1 ⟨#[97]⟩ [] []]]
theorem bs0 : readS ⟨#[94, 60, 97, 62, 42]⟩ = (bp0, 5, 0) := by kernel_rfl
theorem bt0 : readS ⟨#[40, 94, 60, 97, 62, 41, 42]⟩ = (bp0, 7, 0) := by kernel_rfl
theorem bc0 : countP bp0 0 = some 3 := by kernel_rfl
theorem bw0 : showB bp0 = ⟨#[40, 94, 60, 97, 62, 41, 42]⟩ := by kernel_rfl
def bp1 : Pth := .mk 3 ⟨#[]⟩ [] [.mk 1 ⟨#[97]⟩ [] [], .mk 5 ⟨#[]⟩ [] [.mk 1 ⟨#[98]⟩ [] []]]
theorem bs1 : readS ⟨#[60, 97, 62, 47, 60, 98, 62, 42]⟩ = (bp1, 8, 0) := by kernel_rfl
theorem bt1 : readS ⟨#[60, 97, 62, 47, 40, 60, 98, 62, 42, 41]⟩ = (bp1, 10, 0) := by kernel_rfl
theorem bc1 : countP bp1 0 = some 4 := by kernel_rfl
theorem bw1 : showB bp1 = ⟨#[60, 97, 62, 47, 40, 60, 98, 62, 42, 41]⟩ := by kernel_rfl
def bp2 : Pth := .mk 4 ⟨#[]⟩ [] [.mk 1 ⟨#[97]⟩ [] [], .mk 3 ⟨#[]⟩ [] [.mk 1 ⟨#[98]⟩ [] [], .mk 1 ⟨#[99]⟩ [] []]]
theorem bs2 : readS ⟨#[60, 97, 62, 124, 60, 98, 62, 47, 60, 99, 62]⟩ = (bp2, 11, 0) := by kernel_rfl
theorem bt2 : readS ⟨#[60, 97, 62, 124, 40, 60, 98, 62, 47, 60, 99, 62, 41]⟩ = (bp2, 13, 0) := by kernel_rfl
theorem bc2 : countP bp2 0 = some 5 := by kernel_rfl
theorem bw2 : showB bp2 = ⟨#[60, 97, 62, 124, 40, 60, 98, 62, 47, 60, 99, 62, 41]⟩ := by kernel_rfl
def bp3 : Pth := .mk 3 ⟨#[]⟩ [] [.mk 3 ⟨#[]⟩ [] [.mk 1 ⟨#[97]⟩ [] [], .mk 1 ⟨#[98]⟩ [] []], .mk 1 ⟨#[99]⟩ [] []]
theorem bs3 : readS ⟨#[60, 97, 62, 47, 60, 98, 62, 47, 60, 99, 62]⟩ = (bp3, 11, 0) := by kernel_rfl
theorem bt3 : readS ⟨#[40, 60, 97, 62, 47, 60, 98, 62, 41, 47, 60, 99, 62]⟩ = (bp3, 13, 0) := by kernel_rfl
theorem bc3 : countP bp3 0 = some 5 := by kernel_rfl
theorem bw3 : showB bp3 = ⟨#[40, 60, 97, 62, 47, 60, 98, 62, 41, 47, 60, 99, 62]⟩ := by kernel_rfl
def bp4 : Pth := .mk 4 ⟨#[]⟩ [] [.mk 8 ⟨#[]⟩ [⟨#[97]⟩] [], .mk 1 ⟨#[98]⟩ [] []]
theorem bs4 : readS ⟨#[33, 60, 97, 62, 124, 60, 98, 62]⟩ = (bp4, 8, 0) := by kernel_rfl
theorem bt4 : readS ⟨#[40, 33, 40, 60, 97, 62, 41, 41, 124, 60, 98, 62]⟩ = (bp4, 12, 0) := by kernel_rfl
theorem bc4 : countP bp4 0 = some 3 := by kernel_rfl
theorem bw4 : showB bp4 = ⟨#[40, 33, 40, 60, 97, 62, 41, 41, 124, 60, 98, 62]⟩ := by kernel_rfl
def bp5 : Pth := .mk 3 ⟨#[]⟩ [] [.mk 8 ⟨#[]⟩ [⟨#[97]⟩, ⟨#[98]⟩] [], .mk 6 ⟨#[]⟩ [] [.mk 7 ⟨#[]⟩ [] [.mk 1 ⟨#[99]⟩ [] []]]]
theorem bs5 : readS ⟨#[33, 40, 60, 97, 62, 124, 60, 98, 62, 41, 47, 60, 99, 62, 63, 43]⟩ = (bp5, 16, 0) := by kernel_rfl
theorem bt5 : readS ⟨#[40, 33, 40, 60, 97, 62, 124, 60, 98, 62, 41, 41, 47, 40, 40, 60, 99, 62, 63, 41, 43, 41]⟩ = (bp5, 22, 0) := by kernel_rfl
theorem bc5 : countP bp5 0 = some 5 := by kernel_rfl
theorem bw5 : showB bp5 = ⟨#[40, 33, 40, 60, 97, 62, 124, 60, 98, 62, 41, 41, 47, 40, 40, 60, 99, 62, 63, 41, 43, 41]⟩ := by kernel_rfl
set_option maxRecDepth 100000 in
set_option maxHeartbeats 8000000 in
theorem binds_0 (w : World) (hT : Tabs w) : Calls Tryd.prog 6 #[.int .i64 0] w fun e w' => e = .returned (.bool true) ∧ Below w.heap.size w w' := by
  have HT := Aside0.mk hT
  have CK := Aside0.mk known_any
  have C1 : Aside0 (∀ W, Tabs W → Calls Tryd.prog 26 #[.string ⟨#[94, 60, 97, 62, 42]⟩] W (PostR W (bp0, 5, 0))) := ⟨fun W h => by
    have := read_any ⟨#[94, 60, 97, 62, 42]⟩ W (by decide) h
    rwa [bs0] at this⟩
  have C2 : Aside0 (∀ W, Tabs W → Calls Tryd.prog 26 #[.string ⟨#[40, 94, 60, 97, 62, 41, 42]⟩] W (PostR W (bp0, 7, 0))) := ⟨fun W h => by
    have := read_any ⟨#[40, 94, 60, 97, 62, 41, 42]⟩ W (by decide) h
    rwa [bt0] at this⟩
  have CE := Aside0.mk (refSame_any bp0 bp0)
  rw [same_yes rfl] at CE
  have CS := Aside0.mk (show_any bp0 0 3 bc0 (by decide))
  rw [bw0] at CS
  clear hT
  obtain ⟨p, hp⟩ : ∃ p, bp0 = p := ⟨_, rfl⟩
  rw [hp] at C1 C2 CE CS
  clear hp
  go_enter Tryd.func6, Tryd.ntmps6
  go_upto_region 5 with (fail)
  have HB0 : Aside0 (Below w.heap.size w _) := ⟨below_alloc (below_alloc (Below.refl w.heap.size w) (.cells #[.string ⟨#[94, 60, 97, 62, 42]⟩, .string ⟨#[60, 97, 62, 47, 60, 98, 62, 42]⟩, .string ⟨#[60, 97, 62, 124, 60, 98, 62, 47, 60, 99, 62]⟩, .string ⟨#[60, 97, 62, 47, 60, 98, 62, 47, 60, 99, 62]⟩, .string ⟨#[33, 60, 97, 62, 124, 60, 98, 62]⟩, .string ⟨#[33, 40, 60, 97, 62, 124, 60, 98, 62, 41, 47, 60, 99, 62, 63, 43]⟩] 9)) (.cells #[.string ⟨#[40, 94, 60, 97, 62, 41, 42]⟩, .string ⟨#[60, 97, 62, 47, 40, 60, 98, 62, 42, 41]⟩, .string ⟨#[60, 97, 62, 124, 40, 60, 98, 62, 47, 60, 99, 62, 41]⟩, .string ⟨#[40, 60, 97, 62, 47, 60, 98, 62, 41, 47, 60, 99, 62]⟩, .string ⟨#[40, 33, 40, 60, 97, 62, 41, 41, 124, 60, 98, 62]⟩, .string ⟨#[40, 33, 40, 60, 97, 62, 124, 60, 98, 62, 41, 41, 47, 40, 40, 60, 99, 62, 63, 41, 43, 41]⟩] 9)⟩
  generalize (w.alloc (.cells #[.string ⟨#[94, 60, 97, 62, 42]⟩, .string ⟨#[60, 97, 62, 47, 60, 98, 62, 42]⟩, .string ⟨#[60, 97, 62, 124, 60, 98, 62, 47, 60, 99, 62]⟩, .string ⟨#[60, 97, 62, 47, 60, 98, 62, 47, 60, 99, 62]⟩, .string ⟨#[33, 60, 97, 62, 124, 60, 98, 62]⟩, .string ⟨#[33, 40, 60, 97, 62, 124, 60, 98, 62, 41, 47, 60, 99, 62, 63, 43]⟩] 9)).alloc (.cells #[.string ⟨#[40, 94, 60, 97, 62, 41, 42]⟩, .string ⟨#[60, 97, 62, 47, 40, 60, 98, 62, 42, 41]⟩, .string ⟨#[60, 97, 62, 124, 40, 60, 98, 62, 47, 60, 99, 62, 41]⟩, .string ⟨#[40, 60, 97, 62, 47, 60, 98, 62, 41, 47, 60, 99, 62]⟩, .string ⟨#[40, 33, 40, 60, 97, 62, 41, 41, 124, 60, 98, 62]⟩, .string ⟨#[40, 33, 40, 60, 97, 62, 124, 60, 98, 62, 41, 41, 47, 40, 40, 60, 99, 62, 63, 41, 43, 41]⟩] 9) = w0 at HB0 ⊢
  have HT0 := Aside0.mk (HT.out.below HB0.out)
  go_upto_region 6 with (go_at_call 26; (with_reducible refine (C1.out _ HT0.out).mono ?_); rintro e w1 ⟨k1, t1, A1, n1, c1, B1, m1, d1, rfl, hb, hp⟩; have HB1 := Aside0.mk (below_then HB0.out HB0.out.size hb); have HP1 := Aside0.mk hp; have HT1 := Aside0.mk (HT0.out.below hb); clear hb hp)
  obtain ⟨w2, hw2, HA2, HN2⟩ := boxP w1 k1 t1 A1 n1 c1 B1 m1 d1
  rw [← hw2]
  have HB2 := Aside0.mk (below_then HB1.out HB1.out.size HA2.out)
  have HP2 := Aside0.mk (PathAt.below HP1.out HA2.out)
  have HT2 := Aside0.mk (HT1.out.below HA2.out)
  clear hw2
  go_upto_region 7 with (go_at_call 26; (with_reducible refine (C2.out _ HT2.out).mono ?_); rintro e w3 ⟨k2, t2, A2, n2, c2, B2, m2, d2, rfl, hb, hp⟩; have HB3 := Aside0.mk (below_then HB2.out HB2.out.size hb); have HP3 := Aside0.mk (PathAt.below HP2.out hb); have HQ3 := Aside0.mk hp; have HT3 := Aside0.mk (HT2.out.below hb); have HN3 := Aside0.mk (blk_below HN2.out hb); clear hb hp)
  obtain ⟨w4, hw4, HA4, HM4⟩ := boxP w3 k2 t2 A2 n2 c2 B2 m2 d2
  rw [← hw4]
  have HB4 := Aside0.mk (below_then HB3.out HB3.out.size HA4.out)
  have HP4 := Aside0.mk (PathAt.below HP3.out HA4.out)
  have HQ4 := Aside0.mk (PathAt.below HQ3.out HA4.out)
  have HT4 := Aside0.mk (HT3.out.below HA4.out)
  have HN4 := Aside0.mk (blk_below HN3.out HA4.out)
  clear hw4
  have q0 := blk_cell HN4.out 0; have q1 := blk_cell HN4.out 1; have q2 := blk_cell HN4.out 2; have q3 := blk_cell HN4.out 3; simp at q0 q1 q2 q3
  have qx0 := blk_cell HM4.out 0; have qx1 := blk_cell HM4.out 1; have qx2 := blk_cell HM4.out 2; have qx3 := blk_cell HM4.out 3; simp at qx0 qx1 qx2 qx3
  go_wp2_with (first
    | (go_at_call 29; refine (CE.out _ _ _ _ _ _ _ _ _ _ _ _ _ _ _ _ _ _ _ HP4.out HQ4.out).mono ?_; rintro e w5 ⟨rfl, hb⟩; have HB5 := Aside0.mk (below_then HB4.out HB4.out.size hb); have HP5 := Aside0.mk (PathAt.below HP4.out hb); have HT5 := Aside0.mk (HT4.out.below hb); have HN5 := Aside0.mk (blk_below HN4.out hb); have qy0 := blk_cell HN5.out 0; have qy1 := blk_cell HN5.out 1; have qy2 := blk_cell HN5.out 2; have qy3 := blk_cell HN5.out 3; simp at qy0 qy1 qy2 qy3; clear hb)
    | (go_at_call 25; refine (CS.out _ _ _ _ _ _ _ _ _ _ HP5.out).mono ?_; rintro e w6 ⟨rfl, hb⟩; have HB6 := Aside0.mk (below_then HB5.out HB5.out.size hb); have HT6 := Aside0.mk (HT5.out.below hb); clear hb)
    | (go_at_call 28; (with_reducible refine (CK.out _ HT6.out).mono ?_); rintro e w7 ⟨rfl, hb⟩; have HB7 := Aside0.mk (below_then HB6.out HB6.out.size hb); clear hb))
  go_ret
  exact ⟨rfl, HB7.out⟩
set_option maxRecDepth 100000 in
set_option maxHeartbeats 8000000 in
theorem binds_1 (w : World) (hT : Tabs w) : Calls Tryd.prog 6 #[.int .i64 1] w fun e w' => e = .returned (.bool true) ∧ Below w.heap.size w w' := by
  have HT := Aside0.mk hT
  have CK := Aside0.mk known_any
  have C1 : Aside0 (∀ W, Tabs W → Calls Tryd.prog 26 #[.string ⟨#[60, 97, 62, 47, 60, 98, 62, 42]⟩] W (PostR W (bp1, 8, 0))) := ⟨fun W h => by
    have := read_any ⟨#[60, 97, 62, 47, 60, 98, 62, 42]⟩ W (by decide) h
    rwa [bs1] at this⟩
  have C2 : Aside0 (∀ W, Tabs W → Calls Tryd.prog 26 #[.string ⟨#[60, 97, 62, 47, 40, 60, 98, 62, 42, 41]⟩] W (PostR W (bp1, 10, 0))) := ⟨fun W h => by
    have := read_any ⟨#[60, 97, 62, 47, 40, 60, 98, 62, 42, 41]⟩ W (by decide) h
    rwa [bt1] at this⟩
  have CE := Aside0.mk (refSame_any bp1 bp1)
  rw [same_yes rfl] at CE
  have CS := Aside0.mk (show_any bp1 0 4 bc1 (by decide))
  rw [bw1] at CS
  clear hT
  obtain ⟨p, hp⟩ : ∃ p, bp1 = p := ⟨_, rfl⟩
  rw [hp] at C1 C2 CE CS
  clear hp
  go_enter Tryd.func6, Tryd.ntmps6
  go_upto_region 5 with (fail)
  have HB0 : Aside0 (Below w.heap.size w _) := ⟨below_alloc (below_alloc (Below.refl w.heap.size w) (.cells #[.string ⟨#[94, 60, 97, 62, 42]⟩, .string ⟨#[60, 97, 62, 47, 60, 98, 62, 42]⟩, .string ⟨#[60, 97, 62, 124, 60, 98, 62, 47, 60, 99, 62]⟩, .string ⟨#[60, 97, 62, 47, 60, 98, 62, 47, 60, 99, 62]⟩, .string ⟨#[33, 60, 97, 62, 124, 60, 98, 62]⟩, .string ⟨#[33, 40, 60, 97, 62, 124, 60, 98, 62, 41, 47, 60, 99, 62, 63, 43]⟩] 9)) (.cells #[.string ⟨#[40, 94, 60, 97, 62, 41, 42]⟩, .string ⟨#[60, 97, 62, 47, 40, 60, 98, 62, 42, 41]⟩, .string ⟨#[60, 97, 62, 124, 40, 60, 98, 62, 47, 60, 99, 62, 41]⟩, .string ⟨#[40, 60, 97, 62, 47, 60, 98, 62, 41, 47, 60, 99, 62]⟩, .string ⟨#[40, 33, 40, 60, 97, 62, 41, 41, 124, 60, 98, 62]⟩, .string ⟨#[40, 33, 40, 60, 97, 62, 124, 60, 98, 62, 41, 41, 47, 40, 40, 60, 99, 62, 63, 41, 43, 41]⟩] 9)⟩
  generalize (w.alloc (.cells #[.string ⟨#[94, 60, 97, 62, 42]⟩, .string ⟨#[60, 97, 62, 47, 60, 98, 62, 42]⟩, .string ⟨#[60, 97, 62, 124, 60, 98, 62, 47, 60, 99, 62]⟩, .string ⟨#[60, 97, 62, 47, 60, 98, 62, 47, 60, 99, 62]⟩, .string ⟨#[33, 60, 97, 62, 124, 60, 98, 62]⟩, .string ⟨#[33, 40, 60, 97, 62, 124, 60, 98, 62, 41, 47, 60, 99, 62, 63, 43]⟩] 9)).alloc (.cells #[.string ⟨#[40, 94, 60, 97, 62, 41, 42]⟩, .string ⟨#[60, 97, 62, 47, 40, 60, 98, 62, 42, 41]⟩, .string ⟨#[60, 97, 62, 124, 40, 60, 98, 62, 47, 60, 99, 62, 41]⟩, .string ⟨#[40, 60, 97, 62, 47, 60, 98, 62, 41, 47, 60, 99, 62]⟩, .string ⟨#[40, 33, 40, 60, 97, 62, 41, 41, 124, 60, 98, 62]⟩, .string ⟨#[40, 33, 40, 60, 97, 62, 124, 60, 98, 62, 41, 41, 47, 40, 40, 60, 99, 62, 63, 41, 43, 41]⟩] 9) = w0 at HB0 ⊢
  have HT0 := Aside0.mk (HT.out.below HB0.out)
  go_upto_region 6 with (go_at_call 26; (with_reducible refine (C1.out _ HT0.out).mono ?_); rintro e w1 ⟨k1, t1, A1, n1, c1, B1, m1, d1, rfl, hb, hp⟩; have HB1 := Aside0.mk (below_then HB0.out HB0.out.size hb); have HP1 := Aside0.mk hp; have HT1 := Aside0.mk (HT0.out.below hb); clear hb hp)
  obtain ⟨w2, hw2, HA2, HN2⟩ := boxP w1 k1 t1 A1 n1 c1 B1 m1 d1
  rw [← hw2]
  have HB2 := Aside0.mk (below_then HB1.out HB1.out.size HA2.out)
  have HP2 := Aside0.mk (PathAt.below HP1.out HA2.out)
  have HT2 := Aside0.mk (HT1.out.below HA2.out)
  clear hw2
  go_upto_region 7 with (go_at_call 26; (with_reducible refine (C2.out _ HT2.out).mono ?_); rintro e w3 ⟨k2, t2, A2, n2, c2, B2, m2, d2, rfl, hb, hp⟩; have HB3 := Aside0.mk (below_then HB2.out HB2.out.size hb); have HP3 := Aside0.mk (PathAt.below HP2.out hb); have HQ3 := Aside0.mk hp; have HT3 := Aside0.mk (HT2.out.below hb); have HN3 := Aside0.mk (blk_below HN2.out hb); clear hb hp)
  obtain ⟨w4, hw4, HA4, HM4⟩ := boxP w3 k2 t2 A2 n2 c2 B2 m2 d2
  rw [← hw4]
  have HB4 := Aside0.mk (below_then HB3.out HB3.out.size HA4.out)
  have HP4 := Aside0.mk (PathAt.below HP3.out HA4.out)
  have HQ4 := Aside0.mk (PathAt.below HQ3.out HA4.out)
  have HT4 := Aside0.mk (HT3.out.below HA4.out)
  have HN4 := Aside0.mk (blk_below HN3.out HA4.out)
  clear hw4
  have q0 := blk_cell HN4.out 0; have q1 := blk_cell HN4.out 1; have q2 := blk_cell HN4.out 2; have q3 := blk_cell HN4.out 3; simp at q0 q1 q2 q3
  have qx0 := blk_cell HM4.out 0; have qx1 := blk_cell HM4.out 1; have qx2 := blk_cell HM4.out 2; have qx3 := blk_cell HM4.out 3; simp at qx0 qx1 qx2 qx3
  go_wp2_with (first
    | (go_at_call 29; refine (CE.out _ _ _ _ _ _ _ _ _ _ _ _ _ _ _ _ _ _ _ HP4.out HQ4.out).mono ?_; rintro e w5 ⟨rfl, hb⟩; have HB5 := Aside0.mk (below_then HB4.out HB4.out.size hb); have HP5 := Aside0.mk (PathAt.below HP4.out hb); have HT5 := Aside0.mk (HT4.out.below hb); have HN5 := Aside0.mk (blk_below HN4.out hb); have qy0 := blk_cell HN5.out 0; have qy1 := blk_cell HN5.out 1; have qy2 := blk_cell HN5.out 2; have qy3 := blk_cell HN5.out 3; simp at qy0 qy1 qy2 qy3; clear hb)
    | (go_at_call 25; refine (CS.out _ _ _ _ _ _ _ _ _ _ HP5.out).mono ?_; rintro e w6 ⟨rfl, hb⟩; have HB6 := Aside0.mk (below_then HB5.out HB5.out.size hb); have HT6 := Aside0.mk (HT5.out.below hb); clear hb)
    | (go_at_call 28; (with_reducible refine (CK.out _ HT6.out).mono ?_); rintro e w7 ⟨rfl, hb⟩; have HB7 := Aside0.mk (below_then HB6.out HB6.out.size hb); clear hb))
  go_ret
  exact ⟨rfl, HB7.out⟩
set_option maxRecDepth 100000 in
set_option maxHeartbeats 8000000 in
theorem binds_2 (w : World) (hT : Tabs w) : Calls Tryd.prog 6 #[.int .i64 2] w fun e w' => e = .returned (.bool true) ∧ Below w.heap.size w w' := by
  have HT := Aside0.mk hT
  have CK := Aside0.mk known_any
  have C1 : Aside0 (∀ W, Tabs W → Calls Tryd.prog 26 #[.string ⟨#[60, 97, 62, 124, 60, 98, 62, 47, 60, 99, 62]⟩] W (PostR W (bp2, 11, 0))) := ⟨fun W h => by
    have := read_any ⟨#[60, 97, 62, 124, 60, 98, 62, 47, 60, 99, 62]⟩ W (by decide) h
    rwa [bs2] at this⟩
  have C2 : Aside0 (∀ W, Tabs W → Calls Tryd.prog 26 #[.string ⟨#[60, 97, 62, 124, 40, 60, 98, 62, 47, 60, 99, 62, 41]⟩] W (PostR W (bp2, 13, 0))) := ⟨fun W h => by
    have := read_any ⟨#[60, 97, 62, 124, 40, 60, 98, 62, 47, 60, 99, 62, 41]⟩ W (by decide) h
    rwa [bt2] at this⟩
  have CE := Aside0.mk (refSame_any bp2 bp2)
  rw [same_yes rfl] at CE
  have CS := Aside0.mk (show_any bp2 0 5 bc2 (by decide))
  rw [bw2] at CS
  clear hT
  obtain ⟨p, hp⟩ : ∃ p, bp2 = p := ⟨_, rfl⟩
  rw [hp] at C1 C2 CE CS
  clear hp
  go_enter Tryd.func6, Tryd.ntmps6
  go_upto_region 5 with (fail)
  have HB0 : Aside0 (Below w.heap.size w _) := ⟨below_alloc (below_alloc (Below.refl w.heap.size w) (.cells #[.string ⟨#[94, 60, 97, 62, 42]⟩, .string ⟨#[60, 97, 62, 47, 60, 98, 62, 42]⟩, .string ⟨#[60, 97, 62, 124, 60, 98, 62, 47, 60, 99, 62]⟩, .string ⟨#[60, 97, 62, 47, 60, 98, 62, 47, 60, 99, 62]⟩, .string ⟨#[33, 60, 97, 62, 124, 60, 98, 62]⟩, .string ⟨#[33, 40, 60, 97, 62, 124, 60, 98, 62, 41, 47, 60, 99, 62, 63, 43]⟩] 9)) (.cells #[.string ⟨#[40, 94, 60, 97, 62, 41, 42]⟩, .string ⟨#[60, 97, 62, 47, 40, 60, 98, 62, 42, 41]⟩, .string ⟨#[60, 97, 62, 124, 40, 60, 98, 62, 47, 60, 99, 62, 41]⟩, .string ⟨#[40, 60, 97, 62, 47, 60, 98, 62, 41, 47, 60, 99, 62]⟩, .string ⟨#[40, 33, 40, 60, 97, 62, 41, 41, 124, 60, 98, 62]⟩, .string ⟨#[40, 33, 40, 60, 97, 62, 124, 60, 98, 62, 41, 41, 47, 40, 40, 60, 99, 62, 63, 41, 43, 41]⟩] 9)⟩
  generalize (w.alloc (.cells #[.string ⟨#[94, 60, 97, 62, 42]⟩, .string ⟨#[60, 97, 62, 47, 60, 98, 62, 42]⟩, .string ⟨#[60, 97, 62, 124, 60, 98, 62, 47, 60, 99, 62]⟩, .string ⟨#[60, 97, 62, 47, 60, 98, 62, 47, 60, 99, 62]⟩, .string ⟨#[33, 60, 97, 62, 124, 60, 98, 62]⟩, .string ⟨#[33, 40, 60, 97, 62, 124, 60, 98, 62, 41, 47, 60, 99, 62, 63, 43]⟩] 9)).alloc (.cells #[.string ⟨#[40, 94, 60, 97, 62, 41, 42]⟩, .string ⟨#[60, 97, 62, 47, 40, 60, 98, 62, 42, 41]⟩, .string ⟨#[60, 97, 62, 124, 40, 60, 98, 62, 47, 60, 99, 62, 41]⟩, .string ⟨#[40, 60, 97, 62, 47, 60, 98, 62, 41, 47, 60, 99, 62]⟩, .string ⟨#[40, 33, 40, 60, 97, 62, 41, 41, 124, 60, 98, 62]⟩, .string ⟨#[40, 33, 40, 60, 97, 62, 124, 60, 98, 62, 41, 41, 47, 40, 40, 60, 99, 62, 63, 41, 43, 41]⟩] 9) = w0 at HB0 ⊢
  have HT0 := Aside0.mk (HT.out.below HB0.out)
  go_upto_region 6 with (go_at_call 26; (with_reducible refine (C1.out _ HT0.out).mono ?_); rintro e w1 ⟨k1, t1, A1, n1, c1, B1, m1, d1, rfl, hb, hp⟩; have HB1 := Aside0.mk (below_then HB0.out HB0.out.size hb); have HP1 := Aside0.mk hp; have HT1 := Aside0.mk (HT0.out.below hb); clear hb hp)
  obtain ⟨w2, hw2, HA2, HN2⟩ := boxP w1 k1 t1 A1 n1 c1 B1 m1 d1
  rw [← hw2]
  have HB2 := Aside0.mk (below_then HB1.out HB1.out.size HA2.out)
  have HP2 := Aside0.mk (PathAt.below HP1.out HA2.out)
  have HT2 := Aside0.mk (HT1.out.below HA2.out)
  clear hw2
  go_upto_region 7 with (go_at_call 26; (with_reducible refine (C2.out _ HT2.out).mono ?_); rintro e w3 ⟨k2, t2, A2, n2, c2, B2, m2, d2, rfl, hb, hp⟩; have HB3 := Aside0.mk (below_then HB2.out HB2.out.size hb); have HP3 := Aside0.mk (PathAt.below HP2.out hb); have HQ3 := Aside0.mk hp; have HT3 := Aside0.mk (HT2.out.below hb); have HN3 := Aside0.mk (blk_below HN2.out hb); clear hb hp)
  obtain ⟨w4, hw4, HA4, HM4⟩ := boxP w3 k2 t2 A2 n2 c2 B2 m2 d2
  rw [← hw4]
  have HB4 := Aside0.mk (below_then HB3.out HB3.out.size HA4.out)
  have HP4 := Aside0.mk (PathAt.below HP3.out HA4.out)
  have HQ4 := Aside0.mk (PathAt.below HQ3.out HA4.out)
  have HT4 := Aside0.mk (HT3.out.below HA4.out)
  have HN4 := Aside0.mk (blk_below HN3.out HA4.out)
  clear hw4
  have q0 := blk_cell HN4.out 0; have q1 := blk_cell HN4.out 1; have q2 := blk_cell HN4.out 2; have q3 := blk_cell HN4.out 3; simp at q0 q1 q2 q3
  have qx0 := blk_cell HM4.out 0; have qx1 := blk_cell HM4.out 1; have qx2 := blk_cell HM4.out 2; have qx3 := blk_cell HM4.out 3; simp at qx0 qx1 qx2 qx3
  go_wp2_with (first
    | (go_at_call 29; refine (CE.out _ _ _ _ _ _ _ _ _ _ _ _ _ _ _ _ _ _ _ HP4.out HQ4.out).mono ?_; rintro e w5 ⟨rfl, hb⟩; have HB5 := Aside0.mk (below_then HB4.out HB4.out.size hb); have HP5 := Aside0.mk (PathAt.below HP4.out hb); have HT5 := Aside0.mk (HT4.out.below hb); have HN5 := Aside0.mk (blk_below HN4.out hb); have qy0 := blk_cell HN5.out 0; have qy1 := blk_cell HN5.out 1; have qy2 := blk_cell HN5.out 2; have qy3 := blk_cell HN5.out 3; simp at qy0 qy1 qy2 qy3; clear hb)
    | (go_at_call 25; refine (CS.out _ _ _ _ _ _ _ _ _ _ HP5.out).mono ?_; rintro e w6 ⟨rfl, hb⟩; have HB6 := Aside0.mk (below_then HB5.out HB5.out.size hb); have HT6 := Aside0.mk (HT5.out.below hb); clear hb)
    | (go_at_call 28; (with_reducible refine (CK.out _ HT6.out).mono ?_); rintro e w7 ⟨rfl, hb⟩; have HB7 := Aside0.mk (below_then HB6.out HB6.out.size hb); clear hb))
  go_ret
  exact ⟨rfl, HB7.out⟩
set_option maxRecDepth 100000 in
set_option maxHeartbeats 8000000 in
theorem binds_3 (w : World) (hT : Tabs w) : Calls Tryd.prog 6 #[.int .i64 3] w fun e w' => e = .returned (.bool true) ∧ Below w.heap.size w w' := by
  have HT := Aside0.mk hT
  have CK := Aside0.mk known_any
  have C1 : Aside0 (∀ W, Tabs W → Calls Tryd.prog 26 #[.string ⟨#[60, 97, 62, 47, 60, 98, 62, 47, 60, 99, 62]⟩] W (PostR W (bp3, 11, 0))) := ⟨fun W h => by
    have := read_any ⟨#[60, 97, 62, 47, 60, 98, 62, 47, 60, 99, 62]⟩ W (by decide) h
    rwa [bs3] at this⟩
  have C2 : Aside0 (∀ W, Tabs W → Calls Tryd.prog 26 #[.string ⟨#[40, 60, 97, 62, 47, 60, 98, 62, 41, 47, 60, 99, 62]⟩] W (PostR W (bp3, 13, 0))) := ⟨fun W h => by
    have := read_any ⟨#[40, 60, 97, 62, 47, 60, 98, 62, 41, 47, 60, 99, 62]⟩ W (by decide) h
    rwa [bt3] at this⟩
  have CE := Aside0.mk (refSame_any bp3 bp3)
  rw [same_yes rfl] at CE
  have CS := Aside0.mk (show_any bp3 0 5 bc3 (by decide))
  rw [bw3] at CS
  clear hT
  obtain ⟨p, hp⟩ : ∃ p, bp3 = p := ⟨_, rfl⟩
  rw [hp] at C1 C2 CE CS
  clear hp
  go_enter Tryd.func6, Tryd.ntmps6
  go_upto_region 5 with (fail)
  have HB0 : Aside0 (Below w.heap.size w _) := ⟨below_alloc (below_alloc (Below.refl w.heap.size w) (.cells #[.string ⟨#[94, 60, 97, 62, 42]⟩, .string ⟨#[60, 97, 62, 47, 60, 98, 62, 42]⟩, .string ⟨#[60, 97, 62, 124, 60, 98, 62, 47, 60, 99, 62]⟩, .string ⟨#[60, 97, 62, 47, 60, 98, 62, 47, 60, 99, 62]⟩, .string ⟨#[33, 60, 97, 62, 124, 60, 98, 62]⟩, .string ⟨#[33, 40, 60, 97, 62, 124, 60, 98, 62, 41, 47, 60, 99, 62, 63, 43]⟩] 9)) (.cells #[.string ⟨#[40, 94, 60, 97, 62, 41, 42]⟩, .string ⟨#[60, 97, 62, 47, 40, 60, 98, 62, 42, 41]⟩, .string ⟨#[60, 97, 62, 124, 40, 60, 98, 62, 47, 60, 99, 62, 41]⟩, .string ⟨#[40, 60, 97, 62, 47, 60, 98, 62, 41, 47, 60, 99, 62]⟩, .string ⟨#[40, 33, 40, 60, 97, 62, 41, 41, 124, 60, 98, 62]⟩, .string ⟨#[40, 33, 40, 60, 97, 62, 124, 60, 98, 62, 41, 41, 47, 40, 40, 60, 99, 62, 63, 41, 43, 41]⟩] 9)⟩
  generalize (w.alloc (.cells #[.string ⟨#[94, 60, 97, 62, 42]⟩, .string ⟨#[60, 97, 62, 47, 60, 98, 62, 42]⟩, .string ⟨#[60, 97, 62, 124, 60, 98, 62, 47, 60, 99, 62]⟩, .string ⟨#[60, 97, 62, 47, 60, 98, 62, 47, 60, 99, 62]⟩, .string ⟨#[33, 60, 97, 62, 124, 60, 98, 62]⟩, .string ⟨#[33, 40, 60, 97, 62, 124, 60, 98, 62, 41, 47, 60, 99, 62, 63, 43]⟩] 9)).alloc (.cells #[.string ⟨#[40, 94, 60, 97, 62, 41, 42]⟩, .string ⟨#[60, 97, 62, 47, 40, 60, 98, 62, 42, 41]⟩, .string ⟨#[60, 97, 62, 124, 40, 60, 98, 62, 47, 60, 99, 62, 41]⟩, .string ⟨#[40, 60, 97, 62, 47, 60, 98, 62, 41, 47, 60, 99, 62]⟩, .string ⟨#[40, 33, 40, 60, 97, 62, 41, 41, 124, 60, 98, 62]⟩, .string ⟨#[40, 33, 40, 60, 97, 62, 124, 60, 98, 62, 41, 41, 47, 40, 40, 60, 99, 62, 63, 41, 43, 41]⟩] 9) = w0 at HB0 ⊢
  have HT0 := Aside0.mk (HT.out.below HB0.out)
  go_upto_region 6 with (go_at_call 26; (with_reducible refine (C1.out _ HT0.out).mono ?_); rintro e w1 ⟨k1, t1, A1, n1, c1, B1, m1, d1, rfl, hb, hp⟩; have HB1 := Aside0.mk (below_then HB0.out HB0.out.size hb); have HP1 := Aside0.mk hp; have HT1 := Aside0.mk (HT0.out.below hb); clear hb hp)
  obtain ⟨w2, hw2, HA2, HN2⟩ := boxP w1 k1 t1 A1 n1 c1 B1 m1 d1
  rw [← hw2]
  have HB2 := Aside0.mk (below_then HB1.out HB1.out.size HA2.out)
  have HP2 := Aside0.mk (PathAt.below HP1.out HA2.out)
  have HT2 := Aside0.mk (HT1.out.below HA2.out)
  clear hw2
  go_upto_region 7 with (go_at_call 26; (with_reducible refine (C2.out _ HT2.out).mono ?_); rintro e w3 ⟨k2, t2, A2, n2, c2, B2, m2, d2, rfl, hb, hp⟩; have HB3 := Aside0.mk (below_then HB2.out HB2.out.size hb); have HP3 := Aside0.mk (PathAt.below HP2.out hb); have HQ3 := Aside0.mk hp; have HT3 := Aside0.mk (HT2.out.below hb); have HN3 := Aside0.mk (blk_below HN2.out hb); clear hb hp)
  obtain ⟨w4, hw4, HA4, HM4⟩ := boxP w3 k2 t2 A2 n2 c2 B2 m2 d2
  rw [← hw4]
  have HB4 := Aside0.mk (below_then HB3.out HB3.out.size HA4.out)
  have HP4 := Aside0.mk (PathAt.below HP3.out HA4.out)
  have HQ4 := Aside0.mk (PathAt.below HQ3.out HA4.out)
  have HT4 := Aside0.mk (HT3.out.below HA4.out)
  have HN4 := Aside0.mk (blk_below HN3.out HA4.out)
  clear hw4
  have q0 := blk_cell HN4.out 0; have q1 := blk_cell HN4.out 1; have q2 := blk_cell HN4.out 2; have q3 := blk_cell HN4.out 3; simp at q0 q1 q2 q3
  have qx0 := blk_cell HM4.out 0; have qx1 := blk_cell HM4.out 1; have qx2 := blk_cell HM4.out 2; have qx3 := blk_cell HM4.out 3; simp at qx0 qx1 qx2 qx3
  go_wp2_with (first
    | (go_at_call 29; refine (CE.out _ _ _ _ _ _ _ _ _ _ _ _ _ _ _ _ _ _ _ HP4.out HQ4.out).mono ?_; rintro e w5 ⟨rfl, hb⟩; have HB5 := Aside0.mk (below_then HB4.out HB4.out.size hb); have HP5 := Aside0.mk (PathAt.below HP4.out hb); have HT5 := Aside0.mk (HT4.out.below hb); have HN5 := Aside0.mk (blk_below HN4.out hb); have qy0 := blk_cell HN5.out 0; have qy1 := blk_cell HN5.out 1; have qy2 := blk_cell HN5.out 2; have qy3 := blk_cell HN5.out 3; simp at qy0 qy1 qy2 qy3; clear hb)
    | (go_at_call 25; refine (CS.out _ _ _ _ _ _ _ _ _ _ HP5.out).mono ?_; rintro e w6 ⟨rfl, hb⟩; have HB6 := Aside0.mk (below_then HB5.out HB5.out.size hb); have HT6 := Aside0.mk (HT5.out.below hb); clear hb)
    | (go_at_call 28; (with_reducible refine (CK.out _ HT6.out).mono ?_); rintro e w7 ⟨rfl, hb⟩; have HB7 := Aside0.mk (below_then HB6.out HB6.out.size hb); clear hb))
  go_ret
  exact ⟨rfl, HB7.out⟩
set_option maxRecDepth 100000 in
set_option maxHeartbeats 8000000 in
theorem binds_4 (w : World) (hT : Tabs w) : Calls Tryd.prog 6 #[.int .i64 4] w fun e w' => e = .returned (.bool true) ∧ Below w.heap.size w w' := by
  have HT := Aside0.mk hT
  have CK := Aside0.mk known_any
  have C1 : Aside0 (∀ W, Tabs W → Calls Tryd.prog 26 #[.string ⟨#[33, 60, 97, 62, 124, 60, 98, 62]⟩] W (PostR W (bp4, 8, 0))) := ⟨fun W h => by
    have := read_any ⟨#[33, 60, 97, 62, 124, 60, 98, 62]⟩ W (by decide) h
    rwa [bs4] at this⟩
  have C2 : Aside0 (∀ W, Tabs W → Calls Tryd.prog 26 #[.string ⟨#[40, 33, 40, 60, 97, 62, 41, 41, 124, 60, 98, 62]⟩] W (PostR W (bp4, 12, 0))) := ⟨fun W h => by
    have := read_any ⟨#[40, 33, 40, 60, 97, 62, 41, 41, 124, 60, 98, 62]⟩ W (by decide) h
    rwa [bt4] at this⟩
  have CE := Aside0.mk (refSame_any bp4 bp4)
  rw [same_yes rfl] at CE
  have CS := Aside0.mk (show_any bp4 0 3 bc4 (by decide))
  rw [bw4] at CS
  clear hT
  obtain ⟨p, hp⟩ : ∃ p, bp4 = p := ⟨_, rfl⟩
  rw [hp] at C1 C2 CE CS
  clear hp
  go_enter Tryd.func6, Tryd.ntmps6
  go_upto_region 5 with (fail)
  have HB0 : Aside0 (Below w.heap.size w _) := ⟨below_alloc (below_alloc (Below.refl w.heap.size w) (.cells #[.string ⟨#[94, 60, 97, 62, 42]⟩, .string ⟨#[60, 97, 62, 47, 60, 98, 62, 42]⟩, .string ⟨#[60, 97, 62, 124, 60, 98, 62, 47, 60, 99, 62]⟩, .string ⟨#[60, 97, 62, 47, 60, 98, 62, 47, 60, 99, 62]⟩, .string ⟨#[33, 60, 97, 62, 124, 60, 98, 62]⟩, .string ⟨#[33, 40, 60, 97, 62, 124, 60, 98, 62, 41, 47, 60, 99, 62, 63, 43]⟩] 9)) (.cells #[.string ⟨#[40, 94, 60, 97, 62, 41, 42]⟩, .string ⟨#[60, 97, 62, 47, 40, 60, 98, 62, 42, 41]⟩, .string ⟨#[60, 97, 62, 124, 40, 60, 98, 62, 47, 60, 99, 62, 41]⟩, .string ⟨#[40, 60, 97, 62, 47, 60, 98, 62, 41, 47, 60, 99, 62]⟩, .string ⟨#[40, 33, 40, 60, 97, 62, 41, 41, 124, 60, 98, 62]⟩, .string ⟨#[40, 33, 40, 60, 97, 62, 124, 60, 98, 62, 41, 41, 47, 40, 40, 60, 99, 62, 63, 41, 43, 41]⟩] 9)⟩
  generalize (w.alloc (.cells #[.string ⟨#[94, 60, 97, 62, 42]⟩, .string ⟨#[60, 97, 62, 47, 60, 98, 62, 42]⟩, .string ⟨#[60, 97, 62, 124, 60, 98, 62, 47, 60, 99, 62]⟩, .string ⟨#[60, 97, 62, 47, 60, 98, 62, 47, 60, 99, 62]⟩, .string ⟨#[33, 60, 97, 62, 124, 60, 98, 62]⟩, .string ⟨#[33, 40, 60, 97, 62, 124, 60, 98, 62, 41, 47, 60, 99, 62, 63, 43]⟩] 9)).alloc (.cells #[.string ⟨#[40, 94, 60, 97, 62, 41, 42]⟩, .string ⟨#[60, 97, 62, 47, 40, 60, 98, 62, 42, 41]⟩, .string ⟨#[60, 97, 62, 124, 40, 60, 98, 62, 47, 60, 99, 62, 41]⟩, .string ⟨#[40, 60, 97, 62, 47, 60, 98, 62, 41, 47, 60, 99, 62]⟩, .string ⟨#[40, 33, 40, 60, 97, 62, 41, 41, 124, 60, 98, 62]⟩, .string ⟨#[40, 33, 40, 60, 97, 62, 124, 60, 98, 62, 41, 41, 47, 40, 40, 60, 99, 62, 63, 41, 43, 41]⟩] 9) = w0 at HB0 ⊢
  have HT0 := Aside0.mk (HT.out.below HB0.out)
  go_upto_region 6 with (go_at_call 26; (with_reducible refine (C1.out _ HT0.out).mono ?_); rintro e w1 ⟨k1, t1, A1, n1, c1, B1, m1, d1, rfl, hb, hp⟩; have HB1 := Aside0.mk (below_then HB0.out HB0.out.size hb); have HP1 := Aside0.mk hp; have HT1 := Aside0.mk (HT0.out.below hb); clear hb hp)
  obtain ⟨w2, hw2, HA2, HN2⟩ := boxP w1 k1 t1 A1 n1 c1 B1 m1 d1
  rw [← hw2]
  have HB2 := Aside0.mk (below_then HB1.out HB1.out.size HA2.out)
  have HP2 := Aside0.mk (PathAt.below HP1.out HA2.out)
  have HT2 := Aside0.mk (HT1.out.below HA2.out)
  clear hw2
  go_upto_region 7 with (go_at_call 26; (with_reducible refine (C2.out _ HT2.out).mono ?_); rintro e w3 ⟨k2, t2, A2, n2, c2, B2, m2, d2, rfl, hb, hp⟩; have HB3 := Aside0.mk (below_then HB2.out HB2.out.size hb); have HP3 := Aside0.mk (PathAt.below HP2.out hb); have HQ3 := Aside0.mk hp; have HT3 := Aside0.mk (HT2.out.below hb); have HN3 := Aside0.mk (blk_below HN2.out hb); clear hb hp)
  obtain ⟨w4, hw4, HA4, HM4⟩ := boxP w3 k2 t2 A2 n2 c2 B2 m2 d2
  rw [← hw4]
  have HB4 := Aside0.mk (below_then HB3.out HB3.out.size HA4.out)
  have HP4 := Aside0.mk (PathAt.below HP3.out HA4.out)
  have HQ4 := Aside0.mk (PathAt.below HQ3.out HA4.out)
  have HT4 := Aside0.mk (HT3.out.below HA4.out)
  have HN4 := Aside0.mk (blk_below HN3.out HA4.out)
  clear hw4
  have q0 := blk_cell HN4.out 0; have q1 := blk_cell HN4.out 1; have q2 := blk_cell HN4.out 2; have q3 := blk_cell HN4.out 3; simp at q0 q1 q2 q3
  have qx0 := blk_cell HM4.out 0; have qx1 := blk_cell HM4.out 1; have qx2 := blk_cell HM4.out 2; have qx3 := blk_cell HM4.out 3; simp at qx0 qx1 qx2 qx3
  go_wp2_with (first
    | (go_at_call 29; refine (CE.out _ _ _ _ _ _ _ _ _ _ _ _ _ _ _ _ _ _ _ HP4.out HQ4.out).mono ?_; rintro e w5 ⟨rfl, hb⟩; have HB5 := Aside0.mk (below_then HB4.out HB4.out.size hb); have HP5 := Aside0.mk (PathAt.below HP4.out hb); have HT5 := Aside0.mk (HT4.out.below hb); have HN5 := Aside0.mk (blk_below HN4.out hb); have qy0 := blk_cell HN5.out 0; have qy1 := blk_cell HN5.out 1; have qy2 := blk_cell HN5.out 2; have qy3 := blk_cell HN5.out 3; simp at qy0 qy1 qy2 qy3; clear hb)
    | (go_at_call 25; refine (CS.out _ _ _ _ _ _ _ _ _ _ HP5.out).mono ?_; rintro e w6 ⟨rfl, hb⟩; have HB6 := Aside0.mk (below_then HB5.out HB5.out.size hb); have HT6 := Aside0.mk (HT5.out.below hb); clear hb)
    | (go_at_call 28; (with_reducible refine (CK.out _ HT6.out).mono ?_); rintro e w7 ⟨rfl, hb⟩; have HB7 := Aside0.mk (below_then HB6.out HB6.out.size hb); clear hb))
  go_ret
  exact ⟨rfl, HB7.out⟩
set_option maxRecDepth 100000 in
set_option maxHeartbeats 8000000 in
theorem binds_5 (w : World) (hT : Tabs w) : Calls Tryd.prog 6 #[.int .i64 5] w fun e w' => e = .returned (.bool true) ∧ Below w.heap.size w w' := by
  have HT := Aside0.mk hT
  have CK := Aside0.mk known_any
  have C1 : Aside0 (∀ W, Tabs W → Calls Tryd.prog 26 #[.string ⟨#[33, 40, 60, 97, 62, 124, 60, 98, 62, 41, 47, 60, 99, 62, 63, 43]⟩] W (PostR W (bp5, 16, 0))) := ⟨fun W h => by
    have := read_any ⟨#[33, 40, 60, 97, 62, 124, 60, 98, 62, 41, 47, 60, 99, 62, 63, 43]⟩ W (by decide) h
    rwa [bs5] at this⟩
  have C2 : Aside0 (∀ W, Tabs W → Calls Tryd.prog 26 #[.string ⟨#[40, 33, 40, 60, 97, 62, 124, 60, 98, 62, 41, 41, 47, 40, 40, 60, 99, 62, 63, 41, 43, 41]⟩] W (PostR W (bp5, 22, 0))) := ⟨fun W h => by
    have := read_any ⟨#[40, 33, 40, 60, 97, 62, 124, 60, 98, 62, 41, 41, 47, 40, 40, 60, 99, 62, 63, 41, 43, 41]⟩ W (by decide) h
    rwa [bt5] at this⟩
  have CE := Aside0.mk (refSame_any bp5 bp5)
  rw [same_yes rfl] at CE
  have CS := Aside0.mk (show_any bp5 0 5 bc5 (by decide))
  rw [bw5] at CS
  clear hT
  obtain ⟨p, hp⟩ : ∃ p, bp5 = p := ⟨_, rfl⟩
  rw [hp] at C1 C2 CE CS
  clear hp
  go_enter Tryd.func6, Tryd.ntmps6
  go_upto_region 5 with (fail)
  have HB0 : Aside0 (Below w.heap.size w _) := ⟨below_alloc (below_alloc (Below.refl w.heap.size w) (.cells #[.string ⟨#[94, 60, 97, 62, 42]⟩, .string ⟨#[60, 97, 62, 47, 60, 98, 62, 42]⟩, .string ⟨#[60, 97, 62, 124, 60, 98, 62, 47, 60, 99, 62]⟩, .string ⟨#[60, 97, 62, 47, 60, 98, 62, 47, 60, 99, 62]⟩, .string ⟨#[33, 60, 97, 62, 124, 60, 98, 62]⟩, .string ⟨#[33, 40, 60, 97, 62, 124, 60, 98, 62, 41, 47, 60, 99, 62, 63, 43]⟩] 9)) (.cells #[.string ⟨#[40, 94, 60, 97, 62, 41, 42]⟩, .string ⟨#[60, 97, 62, 47, 40, 60, 98, 62, 42, 41]⟩, .string ⟨#[60, 97, 62, 124, 40, 60, 98, 62, 47, 60, 99, 62, 41]⟩, .string ⟨#[40, 60, 97, 62, 47, 60, 98, 62, 41, 47, 60, 99, 62]⟩, .string ⟨#[40, 33, 40, 60, 97, 62, 41, 41, 124, 60, 98, 62]⟩, .string ⟨#[40, 33, 40, 60, 97, 62, 124, 60, 98, 62, 41, 41, 47, 40, 40, 60, 99, 62, 63, 41, 43, 41]⟩] 9)⟩
  generalize (w.alloc (.cells #[.string ⟨#[94, 60, 97, 62, 42]⟩, .string ⟨#[60, 97, 62, 47, 60, 98, 62, 42]⟩, .string ⟨#[60, 97, 62, 124, 60, 98, 62, 47, 60, 99, 62]⟩, .string ⟨#[60, 97, 62, 47, 60, 98, 62, 47, 60, 99, 62]⟩, .string ⟨#[33, 60, 97, 62, 124, 60, 98, 62]⟩, .string ⟨#[33, 40, 60, 97, 62, 124, 60, 98, 62, 41, 47, 60, 99, 62, 63, 43]⟩] 9)).alloc (.cells #[.string ⟨#[40, 94, 60, 97, 62, 41, 42]⟩, .string ⟨#[60, 97, 62, 47, 40, 60, 98, 62, 42, 41]⟩, .string ⟨#[60, 97, 62, 124, 40, 60, 98, 62, 47, 60, 99, 62, 41]⟩, .string ⟨#[40, 60, 97, 62, 47, 60, 98, 62, 41, 47, 60, 99, 62]⟩, .string ⟨#[40, 33, 40, 60, 97, 62, 41, 41, 124, 60, 98, 62]⟩, .string ⟨#[40, 33, 40, 60, 97, 62, 124, 60, 98, 62, 41, 41, 47, 40, 40, 60, 99, 62, 63, 41, 43, 41]⟩] 9) = w0 at HB0 ⊢
  have HT0 := Aside0.mk (HT.out.below HB0.out)
  go_upto_region 6 with (go_at_call 26; (with_reducible refine (C1.out _ HT0.out).mono ?_); rintro e w1 ⟨k1, t1, A1, n1, c1, B1, m1, d1, rfl, hb, hp⟩; have HB1 := Aside0.mk (below_then HB0.out HB0.out.size hb); have HP1 := Aside0.mk hp; have HT1 := Aside0.mk (HT0.out.below hb); clear hb hp)
  obtain ⟨w2, hw2, HA2, HN2⟩ := boxP w1 k1 t1 A1 n1 c1 B1 m1 d1
  rw [← hw2]
  have HB2 := Aside0.mk (below_then HB1.out HB1.out.size HA2.out)
  have HP2 := Aside0.mk (PathAt.below HP1.out HA2.out)
  have HT2 := Aside0.mk (HT1.out.below HA2.out)
  clear hw2
  go_upto_region 7 with (go_at_call 26; (with_reducible refine (C2.out _ HT2.out).mono ?_); rintro e w3 ⟨k2, t2, A2, n2, c2, B2, m2, d2, rfl, hb, hp⟩; have HB3 := Aside0.mk (below_then HB2.out HB2.out.size hb); have HP3 := Aside0.mk (PathAt.below HP2.out hb); have HQ3 := Aside0.mk hp; have HT3 := Aside0.mk (HT2.out.below hb); have HN3 := Aside0.mk (blk_below HN2.out hb); clear hb hp)
  obtain ⟨w4, hw4, HA4, HM4⟩ := boxP w3 k2 t2 A2 n2 c2 B2 m2 d2
  rw [← hw4]
  have HB4 := Aside0.mk (below_then HB3.out HB3.out.size HA4.out)
  have HP4 := Aside0.mk (PathAt.below HP3.out HA4.out)
  have HQ4 := Aside0.mk (PathAt.below HQ3.out HA4.out)
  have HT4 := Aside0.mk (HT3.out.below HA4.out)
  have HN4 := Aside0.mk (blk_below HN3.out HA4.out)
  clear hw4
  have q0 := blk_cell HN4.out 0; have q1 := blk_cell HN4.out 1; have q2 := blk_cell HN4.out 2; have q3 := blk_cell HN4.out 3; simp at q0 q1 q2 q3
  have qx0 := blk_cell HM4.out 0; have qx1 := blk_cell HM4.out 1; have qx2 := blk_cell HM4.out 2; have qx3 := blk_cell HM4.out 3; simp at qx0 qx1 qx2 qx3
  go_wp2_with (first
    | (go_at_call 29; refine (CE.out _ _ _ _ _ _ _ _ _ _ _ _ _ _ _ _ _ _ _ HP4.out HQ4.out).mono ?_; rintro e w5 ⟨rfl, hb⟩; have HB5 := Aside0.mk (below_then HB4.out HB4.out.size hb); have HP5 := Aside0.mk (PathAt.below HP4.out hb); have HT5 := Aside0.mk (HT4.out.below hb); have HN5 := Aside0.mk (blk_below HN4.out hb); have qy0 := blk_cell HN5.out 0; have qy1 := blk_cell HN5.out 1; have qy2 := blk_cell HN5.out 2; have qy3 := blk_cell HN5.out 3; simp at qy0 qy1 qy2 qy3; clear hb)
    | (go_at_call 25; refine (CS.out _ _ _ _ _ _ _ _ _ _ HP5.out).mono ?_; rintro e w6 ⟨rfl, hb⟩; have HB6 := Aside0.mk (below_then HB5.out HB5.out.size hb); have HT6 := Aside0.mk (HT5.out.below hb); clear hb)
    | (go_at_call 28; (with_reducible refine (CK.out _ HT6.out).mono ?_); rintro e w7 ⟨rfl, hb⟩; have HB7 := Aside0.mk (below_then HB6.out HB6.out.size hb); clear hb))
  go_ret
  exact ⟨rfl, HB7.out⟩
set_option maxRecDepth 100000 in
set_option maxHeartbeats 8000000 in
theorem binds_out (way : Int) (h : way < 0 ∨ (0 ≤ way ∧ 5 < way)) (w : World) : Calls Tryd.prog 6 #[.int .i64 way] w fun e w' => e = .returned (.bool true) ∧ Below w.heap.size w w' := by
  rcases h with h1 | ⟨h1, h2⟩
  all_goals
    go_enter Tryd.func6, Tryd.ntmps6
    go_wp2_with fail
    go_ret
    exact ⟨rfl, Below.refl _ _⟩
theorem binds_law (way : Int) (w : World) (_h : (Lit.int .i64 way).wf = true) (hT : Tabs w) : Calls Tryd.prog 6 #[.int .i64 way] w fun e w' => e = .returned (.bool true) ∧ Below w.heap.size w w' := by
  by_cases hin : 0 ≤ way ∧ way ≤ 5
  · rcases (show way = 0 ∨ way = 1 ∨ way = 2 ∨ way = 3 ∨ way = 4 ∨ way = 5 by omega) with rfl | rfl | rfl | rfl | rfl | rfl
    · exact binds_0 w hT
    · exact binds_1 w hT
    · exact binds_2 w hT
    · exact binds_3 w hT
    · exact binds_4 w hT
    · exact binds_5 w hT
  · exact binds_out way (by omega) w
end Go.Proofs.YtbaegfjoionojaaDoor.Qy
