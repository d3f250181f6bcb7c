/- The walk of the law's known. -/
import Derived.Test.YtmenjcjpihpjjaaDoorTmS
set_option linter.unusedSimpArgs false
set_option linter.unusedVariables false
namespace Go.Proofs.YtmenjcjpihpjjaaDoor.Tm
open Go Go.RowKit Go.Shelf Go.Proofs.YtmenjcjpihpjjaaDoorW.PrintWords

theorem k_is : isB ⟨4, ⟨#[97, 10]⟩, ⟨#[101, 110]⟩⟩ = true := by decide +kernel
theorem k_show : showS ⟨4, ⟨#[97, 10]⟩, ⟨#[101, 110]⟩⟩ = ⟨#[34, 97, 92, 110, 34, 64, 101, 110]⟩ := by kernel_rfl
theorem k_iri : iriB ⟨#[97, 58, 98]⟩ = true := by decide +kernel
theorem k_iri2 : iriB ⟨#[97, 32, 98]⟩ = false := by decide +kernel
set_option maxRecDepth 100000 in
set_option maxHeartbeats 2000000 in
theorem known_any (w : World) (hT : Tabs w) : Calls Tryd.prog 11 #[] w fun e w' => e = .returned (.bool true) ∧ Below w.heap.size w w' := by
  obtain ⟨wb, hwb, HB0⟩ := boxT w 4 ⟨#[97, 10]⟩ ⟨#[101, 110]⟩
  have HT0 := Aside0.mk (hT.below HB0.out)
  have HX0 : Aside0 (BoxedT wb w.heap.size 4 ⟨#[97, 10]⟩ ⟨#[101, 110]⟩) := ⟨by rw [hwb]; exact BoxedT.new w 4 _ _ _⟩
  have CI : Aside0 (∀ W, Tabs W → Calls Tryd.prog 10 #[.agg #[.int .i64 4, .string ⟨#[97, 10]⟩, .string ⟨#[101, 110]⟩]] W fun e w' => e = .returned (.bool true) ∧ Below W.heap.size W w') := ⟨fun W h => by
    have := is_any ⟨4, ⟨#[97, 10]⟩, ⟨#[101, 110]⟩⟩ W (by decide) (by decide) h
    rwa [k_is] at this⟩
  have CS : Aside0 (∀ W, Calls Tryd.prog 12 #[.agg #[.int .i64 4, .string ⟨#[97, 10]⟩, .string ⟨#[101, 110]⟩]] W fun e w' => e = .returned (.string ⟨#[34, 97, 92, 110, 34, 64, 101, 110]⟩) ∧ Below W.heap.size W w') := ⟨fun W => by
    have := show_any ⟨4, ⟨#[97, 10]⟩, ⟨#[101, 110]⟩⟩ W (by decide) (by decide)
    rwa [k_show] at this⟩
  have C1 : Aside0 (∀ W, Tabs W → Calls Tryd.prog 15 #[.string ⟨#[97, 58, 98]⟩] W fun e w' => e = .returned (.bool true) ∧ Below W.heap.size W w') := ⟨fun W h => by
    have := iri_any ⟨#[97, 58, 98]⟩ W (by decide) h
    rwa [k_iri] at this⟩
  have C2 : Aside0 (∀ W, Tabs W → Calls Tryd.prog 15 #[.string ⟨#[97, 32, 98]⟩] W fun e w' => e = .returned (.bool false) ∧ Below W.heap.size W w') := ⟨fun W h => by
    have := iri_any ⟨#[97, 32, 98]⟩ W (by decide) h
    rwa [k_iri2] at this⟩
  rw [hwb] at HB0 HT0 HX0
  obtain ⟨x0, x1, x2⟩ := HX0.out
  clear hwb hT
  go_enter Tryd.func11, Tryd.ntmps11
  go_wp2_with (first
    | (go_at_call 10; (with_reducible refine (CI.out _ HT0.out).mono ?_); rintro e w1 ⟨rfl, hb⟩; have HB1 := Aside0.mk (below_then HB0.out HB0.out.size hb); have HT1 := Aside0.mk (HT0.out.below hb); obtain ⟨y0, y1, y2⟩ := HX0.out.below hb; clear hb)
    | (go_at_call 12; (with_reducible refine (CS.out _).mono ?_); rintro e w2 ⟨rfl, hb⟩; have HB2 := Aside0.mk (below_then HB1.out HB1.out.size hb); have HT2 := Aside0.mk (HT1.out.below hb); clear hb)
    | (go_at_call 15; (with_reducible refine (C1.out _ HT2.out).mono ?_); rintro e w3 ⟨rfl, hb⟩; have HB3 := Aside0.mk (below_then HB2.out HB2.out.size hb); have HT3 := Aside0.mk (HT2.out.below hb); clear hb)
    | (go_at_call 15; (with_reducible refine (C2.out _ HT3.out).mono ?_); rintro e w4 ⟨rfl, hb⟩; have HB4 := Aside0.mk (below_then HB3.out HB3.out.size hb); clear hb))
  go_ret
  exact ⟨rfl, HB4.out⟩
end Go.Proofs.YtmenjcjpihpjjaaDoor.Tm
