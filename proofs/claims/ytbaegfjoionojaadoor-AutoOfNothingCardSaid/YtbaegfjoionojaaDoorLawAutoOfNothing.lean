/- The law AutoOfNothing: a nil Auto has no places. -/
import Derived.Test.YtbaegfjoionojaaDoorQaW
import Derived.Test.YtbaegfjoionojaaDoorQaA
set_option linter.unusedSimpArgs false
set_option linter.unusedVariables false
namespace Go.Proofs.YtbaegfjoionojaaDoor.Qa
open Go Go.RowKit Go.Proofs.YtbaegfjoionojaaDoor.Qy Go.Proofs.YtbaegfjoionojaaDoor.Tm Go.Proofs.YtbaegfjoionojaaDoorW.PrintWords

def OneT (a : Stp) : Prop := ∃ t, a.ts = [t] ∧ t.size ≤ 300
/-- A word that is looked at. -/
def Wrd (l : List Stp) : Prop := l.length ≤ 8 ∧ ∀ (i : Nat) a, l[i]? = some a → OneT a
def WordP (w : World) (P : Prop) (e : Ending) (w' : World) : Prop := ∃ b : Bool, e = .returned (.bool b) ∧ (b = true ↔ P) ∧ w' = w
theorem word_no {w : World} {l : List Stp} {P : Prop} (hP : Wrd l = P) (h : ¬ Wrd l) : WordP w P (.returned (.bool false)) w := ⟨false, rfl, ⟨fun h => (by cases h), fun h2 => absurd (hP ▸ h2) h⟩, rfl⟩
set_option maxRecDepth 100000 in
set_option maxHeartbeats 8000000 in
theorem word_any (l : List Stp) (A : Option Addr) (c : Nat) (w : World) (hl : l.length ≤ 9223372036854775807) (hr : RowAt w A 5 l (StpAt w)) : Calls Tryd.prog 42 #[.slice A l.length c] w (WordP w (Wrd l)) := by
  obtain ⟨P, hP⟩ : ∃ P, Wrd l = P := ⟨_, rfl⟩
  rw [hP]
  have HPP := Aside0.mk hP
  have HR := Aside0.mk hr
  clear hP hr
  go_enter Tryd.func42, Tryd.ntmps42
  go_wp2_with fail
  go_loopw [3] (fun x wr => ∃ i : Nat, i ≤ l.length ∧ i ≤ 50 ∧ x = .int .i64 i ∧ Aside0 (∀ (j : Nat) a, j < i → l[j]? = some a → OneT a) ∧ Aside0 (wr = w)) (fun x _ => 50 - (intOf x).toNat)
  case atStart => exact ⟨0, by omega, by omega, rfl, ⟨fun j a h => by omega⟩, ⟨rfl⟩⟩
  case round =>
    obtain ⟨i, hi, hi50, rfl, HJ, hw⟩ := hrel
    obtain rfl := hw.out
    by_cases hin : i < l.length
    · have n1 : decide ((i : Int) < (l.length : Int)) = true := by rw [decide_eq_true_eq]; omega
      have n1n : decide (i < l.length) = true := by rw [decide_eq_true_eq]; omega
      by_cases h50 : i < 50
      · have n2 : decide ((i : Int) < (50 : Int)) = true := by rw [decide_eq_true_eq]; omega
        obtain ⟨a, ha⟩ : ∃ a, l[i]? = some a := ⟨l[i]'hin, List.getElem?_eq_getElem _⟩
        obtain ⟨b, o, cs, rfl, hcl, hst⟩ := HR.out i a ha
        obtain ⟨B, d, rfl, hd, hts⟩ := hst
        have a4 := hcl 4 _ rfl
        have g0 : (0 : Int) ≤ (i : Int) := by omega
        have HA := Aside0.mk ha
        clear hcl ha
        by_cases h1 : a.ts.length = 1
        · obtain ⟨t, ht⟩ : ∃ t, a.ts = [t] := by
            cases hh : a.ts with
            | nil => rw [hh] at h1; cases h1
            | cons t m =>
              rw [hh] at h1
              simp at h1
              exact ⟨t, by rw [h1]⟩
          obtain ⟨tb, tf, rfl, -, htc⟩ := hts.2 (by omega)
          have ac := htc 0 t (by rw [ht]; rfl)
          rw [h1] at a4
          have HT := Aside0.mk ht
          clear hts htc ht h1 hd
          try rw [Nat.add_zero] at ac
          by_cases hs : 300 < t.size
          · have HF : Aside0 (¬ Wrd l) := ⟨fun h => by
              obtain ⟨u, hu, hz⟩ := h.2 i a HA.out
              rw [HT.out] at hu
              simp only [List.cons.injEq, and_true] at hu
              subst hu; omega⟩
            have n3 : decide ((300 : Int) < (t.size : Int)) = true := by rw [decide_eq_true_eq]; omega
            clear hs
            go_wp2_with fail
            go_ret
            exact word_no HPP.out HF.out
          · have HJ2 : Aside0 (∀ (j : Nat) a, j < i + 1 → l[j]? = some a → OneT a) := ⟨fun j b hj hb => by
              by_cases e : j = i
              · subst e
                obtain rfl := Option.some.inj (HA.out.symm.trans hb)
                exact ⟨t, HT.out, by omega⟩
              · exact HJ.out j b (by omega) hb⟩
            have n3 : decide ((300 : Int) < (t.size : Int)) = false := by rw [decide_eq_false_iff_not]; omega
            clear hs
            go_wp2_with fail
            go_roundw
            case rel => exact ⟨i + 1, by omega, by omega, by go_num, HJ2, ⟨by first | trivial | rfl⟩⟩
            case measure => simp [intOf]; omega
        · have HF : Aside0 (¬ Wrd l) := ⟨fun h => by
            obtain ⟨u, hu, -⟩ := h.2 i a HA.out
            rw [hu] at h1
            exact h1 rfl⟩
          have n3 : ((a.ts.length : Int) != 1) = true := by rw [bne_iff_ne]; omega
          clear hts h1
          go_wp2_with fail
          go_ret
          exact word_no HPP.out HF.out
      · have HF : Aside0 (¬ Wrd l) := ⟨fun h => by have := h.1; omega⟩
        have n2 : decide ((i : Int) < (50 : Int)) = false := by rw [decide_eq_false_iff_not]; omega
        have n4 : decide ((l.length : Int) ≤ (8 : Int)) = false := by rw [decide_eq_false_iff_not]; omega
        go_wp2_with fail
        go_ret
        exact word_no HPP.out HF.out
    · have n1 : decide ((i : Int) < (l.length : Int)) = false := by rw [decide_eq_false_iff_not]; omega
      have n1n : decide (i < l.length) = false := by rw [decide_eq_false_iff_not]; omega
      by_cases h8 : l.length ≤ 8
      · have HF : Aside0 (Wrd l) := ⟨⟨h8, fun j a ha => HJ.out j a (by have := (List.getElem?_eq_some_iff.1 ha).1; omega) ha⟩⟩
        have n4 : decide ((l.length : Int) ≤ (8 : Int)) = true := by rw [decide_eq_true_eq]; omega
        clear h8 hin
        go_wp2_with fail
        go_ret
        exact ⟨true, rfl, ⟨fun _ => HPP.out ▸ HF.out, fun _ => rfl⟩, rfl⟩
      · have HF : Aside0 (¬ Wrd l) := ⟨fun h => h8 h.1⟩
        have n4 : decide ((l.length : Int) ≤ (8 : Int)) = false := by rw [decide_eq_false_iff_not]; omega
        clear h8 hin
        go_wp2_with fail
        go_ret
        exact word_no HPP.out HF.out
theorem noP_at (w : World) : PathAt w anyB noP [.int .i64 0, .string ⟨#[]⟩, .slice none 0 0, .slice none 0 0] := by
  show PathAt w anyB (.mk 0 ⟨#[]⟩ [] []) _
  unfold PathAt
  exact ⟨none, 0, none, 0, rfl, by simp, by simp, by simp, ⟨by simp, fun h => by simp at h⟩, by unfold KidsAt; trivial⟩
theorem noP_tame : Tame noP := tame_mk.2 ⟨by decide, fun x hx => (by cases hx), fun q hq => (by cases hq)⟩
theorem noP_not (r : Rx) : r.p ≠ noP := by
  cases r <;> simp [Rx.p, noP]
theorem nothing_new {w : World} {v : Value} {er : Int} (h : NewR w noP v er) : er = 1 := by
  rcases h with ⟨-, -, h⟩ | ⟨r, hr, -⟩
  · exact h
  · exact absurd hr (noP_not r)
set_option maxRecDepth 100000 in
set_option maxHeartbeats 8000000 in
theorem nothing_law (x : Int) (A : Option Addr) (c : Nat) (l : List Stp) (w : World) (_h : (Lit.int .i64 x).wf = true) (hc : l.length ≤ 9223372036854775807) (hr : RowAt w A 5 l (StpAt w)) (hT : Tabs w) :
    Calls Tryd.prog 18 #[.int .i64 x, .slice A l.length c] w fun e w' => e = .returned (.bool true) ∧ Below w.heap.size w w' := by
  have CW := Aside0.mk (word_any l A c w hc hr)
  have CN := Aside0.mk (new_any noP noP_tame w anyB 0 ⟨#[]⟩ none 0 0 none 0 0 (noP_at w) hT)
  have HT := Aside0.mk hT
  clear hT hr _h
  go_enter Tryd.func18, Tryd.ntmps18
  go_upto_region 1 with (fail)
  go_wp2_with (go_at_call 42; (with_reducible refine CW.out.mono ?_); rintro e w1 ⟨z, rfl, -, hw⟩; obtain rfl := hw.symm; cases z)
  · go_ret
    exact ⟨rfl, Below.refl _ _⟩
  · go_wp2_with (first
      | (go_at_call 34; (with_reducible refine CN.out.mono ?_); rintro e w2 ⟨v, er, rfl, hn, hb⟩; obtain rfl := nothing_new hn; have HB2 := Aside0.mk hb; have CP := Aside0.mk (places_nil w2); have CS := Aside0.mk (steps_nil w2); have CL := Aside0.mk (last_nil w2 x); have CT := Aside0.mk (takes_nil w2 A l.length c); have CT0 := Aside0.mk (takes_nil w2 none 0 0); have CK := Aside0.mk (known_any w2 (HT.out.below hb)); clear hn hb)
      | (go_at_call 37; (with_reducible refine CP.out.mono ?_); rintro e w3 ⟨rfl, hw⟩; obtain rfl := hw.symm)
      | (go_at_call 39; (with_reducible refine CS.out.mono ?_); rintro e w4 ⟨rfl, hw⟩; obtain rfl := hw.symm)
      | (go_at_call 41; (with_reducible refine CL.out.mono ?_); rintro e w5 ⟨rfl, hw⟩; obtain rfl := hw.symm)
      | (go_at_call 43; (with_reducible refine CT.out.mono ?_); rintro e w6 ⟨rfl, hw⟩; obtain rfl := hw.symm)
      | (go_at_call 43; (with_reducible refine CT0.out.mono ?_); rintro e w7 ⟨rfl, hw⟩; obtain rfl := hw.symm)
      | (go_at_call 36; (with_reducible refine CK.out.mono ?_); rintro e w8 ⟨rfl, hb⟩; have HB8 := Aside0.mk hb; clear hb))
    go_ret
    exact ⟨rfl, w_then' HB2.out HB8.out⟩
end Go.Proofs.YtbaegfjoionojaaDoor.Qa
