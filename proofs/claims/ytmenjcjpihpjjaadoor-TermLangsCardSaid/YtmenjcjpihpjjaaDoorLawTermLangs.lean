/- The law TermLangs: a language has parts of so many letters, digits not in the first. -/
import Derived.Test.YtmenjcjpihpjjaaDoorTmT
set_option linter.unusedSimpArgs false
set_option linter.unusedVariables false
namespace Go.Proofs.YtmenjcjpihpjjaaDoor.Tm
open Go Go.RowKit Go.Shelf Go.Proofs.YtmenjcjpihpjjaaDoorW.PrintWords

theorem langs_show (s : ByteArray) : showS ⟨4, ⟨#[97]⟩, s⟩ = (⟨#[34, 97, 34, 64]⟩ : ByteArray) ++ s := by
  conv => rhs; rw [ba_lst s]
  exact (ba_app [34, 97, 34, 64] (lst s)).symm
set_option maxRecDepth 100000 in
set_option maxHeartbeats 2000000 in
theorem langs_law (s : ByteArray) (w : World) (_h : s.size ≤ maxLen) (_h2 : s.size ≤ 140737488351232) (hT : Tabs w) : Calls Tryd.prog 4 #[.string s] w fun e w' => e = .returned (.bool true) ∧ Below w.heap.size w w' := by
  by_cases hl : 60 < s.size
  · have g : (60 : Int) < (s.size : Int) := by omega
    clear hl
    go_enter Tryd.func4, Tryd.ntmps4
    go_wp2_with fail
    go_ret
    exact ⟨rfl, Below.refl _ _⟩
  · have g : (s.size : Int) ≤ 60 := by omega
    obtain ⟨wb, hwb, HB0⟩ := boxT w 4 ⟨#[97]⟩ s
    have HT0 := Aside0.mk (hT.below HB0.out)
    have HX0 : Aside0 (BoxedT wb w.heap.size 4 ⟨#[97]⟩ s) := ⟨by rw [hwb]; exact BoxedT.new w 4 _ _ _⟩
    have CI : Aside0 (∀ W, Tabs W → Calls Tryd.prog 10 #[.agg #[.int .i64 4, .string ⟨#[97]⟩, .string s]] W fun e w' => e = .returned (.bool (isB ⟨4, ⟨#[97]⟩, s⟩)) ∧ Below W.heap.size W w') := ⟨fun W h => is_any ⟨4, ⟨#[97]⟩, s⟩ W (by show 1 ≤ 1000; decide) (by show s.size ≤ 1000; omega) h⟩
    have CR : Aside0 (∀ W, Tabs W → Calls Tryd.prog 14 #[.agg #[.int .i64 4, .string ⟨#[97]⟩, .string s]] W fun e w' => e = .returned (.bool (isB ⟨4, ⟨#[97]⟩, s⟩)) ∧ Below W.heap.size W w') := ⟨fun W h => refIs_any ⟨4, ⟨#[97]⟩, s⟩ W (by show 1 ≤ 1000; decide) (by show s.size ≤ 1000; omega) h⟩
    have CS : Aside0 (∀ W, Calls Tryd.prog 12 #[.agg #[.int .i64 4, .string ⟨#[97]⟩, .string s]] W fun e w' => e = .returned (.string ((⟨#[34, 97, 34, 64]⟩ : ByteArray) ++ s)) ∧ Below W.heap.size W w') := ⟨fun W => by
      have := show_any ⟨4, ⟨#[97]⟩, s⟩ W (by show 1 ≤ 1000; decide) (by show s.size ≤ 1000; omega)
      rwa [langs_show] at this⟩
    have CK := Aside0.mk known_any
    obtain ⟨b, hb⟩ : ∃ b, b = isB ⟨4, ⟨#[97]⟩, s⟩ := ⟨_, rfl⟩
    rw [← hb] at CI CR
    rw [hwb] at HB0 HT0 HX0
    obtain ⟨x0, x1, x2⟩ := HX0.out
    clear hwb hT hl hb
    cases b
    all_goals
      go_enter Tryd.func4, Tryd.ntmps4
      go_wp2_with (first
        | (go_at_call 10; (with_reducible refine (CI.out _ HT0.out).mono ?_); rintro e w1 ⟨rfl, hb⟩; have HB1 := Aside0.mk (below_then HB0.out HB0.out.size hb); have HT1 := Aside0.mk (HT0.out.below hb); have HX1 := Aside0.mk (HX0.out.below hb); obtain ⟨y0, y1, y2⟩ := HX1.out; clear hb)
        | (go_at_call 14; (with_reducible refine (CR.out _ HT1.out).mono ?_); rintro e w2 ⟨rfl, hb⟩; have HB2 := Aside0.mk (below_then HB1.out HB1.out.size hb); have HT2 := Aside0.mk (HT1.out.below hb); have HX2 := Aside0.mk (HX1.out.below hb); obtain ⟨z0, z1, z2⟩ := HX2.out; clear hb)
        | (go_at_call 12; (with_reducible refine (CS.out _).mono ?_); rintro e w3 ⟨rfl, hb⟩; have HB3 := Aside0.mk (below_then HB2.out HB2.out.size hb); have HT3 := Aside0.mk (HT2.out.below hb); clear hb)
        | (go_at_call 11; first
            | ((with_reducible refine (CK.out _ HT3.out).mono ?_); rintro e w4 ⟨rfl, hb⟩; have HB4 := Aside0.mk (below_then HB3.out HB3.out.size hb); clear hb)
            | ((with_reducible refine (CK.out _ HT2.out).mono ?_); rintro e w4 ⟨rfl, hb⟩; have HB4 := Aside0.mk (below_then HB2.out HB2.out.size hb); clear hb)))
      go_ret
      exact ⟨rfl, HB4.out⟩
end Go.Proofs.YtmenjcjpihpjjaaDoor.Tm
