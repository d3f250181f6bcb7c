/- The walk of the reference's IsIRI. -/
import Derived.Test.YtbaegfjoionojaaDoorTmF
set_option linter.unusedSimpArgs false
set_option linter.unusedVariables false
namespace Go.Proofs.YtbaegfjoionojaaDoor.Tm
open Go Go.RowKit Go.Shelf Go.Proofs.YtbaegfjoionojaaDoorW.PrintWords

/-- The runes of a text as a row of its own: what the conversion makes, and where. -/
theorem conv_runes (s : ByteArray) (hs : s.size ≤ 1000) : ∃ (F : World → World) (g : World → Nat), (∀ W : World, (convert 9 149 (.string s)).run Tryd.prog W = .ok (.slice (some ⟨W.heap.size, 0, none⟩) (runes s).length (g W)) (F W)) ∧
    (∀ W : World, Below W.heap.size W (F W)) ∧ ∀ (W : World) (i r : Nat), (runes s)[i]? = some r → (F W).cell? ⟨W.heap.size, i, none⟩ = some (.int .i32 (r : Int)) := by
  have hl : (Conv.runesFrom s s.size 0 #[]).toList = (runes s).map (fun (r : Nat) => Value.int .i32 (r : Int)) := runes_conv s
  have hn : (Conv.runesFrom s s.size 0 #[]).size = (runes s).length := by rw [← Array.length_toList, hl, List.length_map]
  have hb : (runes s).length ≤ 70368744177664 := by
    rw [← hn]; have := size_runesFrom s s.size 0 #[]; simp at this; omega
  refine ⟨fun W => W.drew.alloc (.cells (Conv.runesFrom s s.size 0 #[] ++ Array.replicate (grownCap W (Conv.runesFrom s s.size 0 #[]).size 0 21 - (Conv.runesFrom s s.size 0 #[]).size) (.int .i32 0)) 21), fun W => grownCap W (Conv.runesFrom s s.size 0 #[]).size 0 21, fun W => ?_, fun W => ?_, fun W i r hr => ?_⟩
  · have := run_runes_of_string (P := Tryd.prog) W 9 149 21 s Tryd.underlying9 Tryd.underlying149 Tryd.underlying21 (by rw [hn]; exact hb)
    rw [this, hn]
  · exact below_alloc (below_drew (Below.refl _ _)) _
  · obtain ⟨hi, _⟩ := List.getElem?_eq_some_iff.1 hr
    have h1 : (Conv.runesFrom s s.size 0 #[])[i]? = some (.int .i32 (r : Int)) := by
      rw [← Array.getElem?_toList, hl, List.getElem?_map, hr]; rfl
    have h2 := blk_cell (heap_alloc_new W.drew (.cells (Conv.runesFrom s s.size 0 #[] ++ Array.replicate (grownCap W (Conv.runesFrom s s.size 0 #[]).size 0 21 - (Conv.runesFrom s s.size 0 #[]).size) (.int .i32 0)) 21)) i
    refine Eq.trans h2 ?_
    rw [Array.getElem?_append_left (by rw [hn]; exact hi), h1]
theorem all_no {p : Nat → Bool} {l : List Nat} {i r : Nat} (h : l[i]? = some r) (hp : p r = false) : l.all p = false := by
  rw [Bool.eq_false_iff]
  intro hh
  have := List.all_eq_true.1 hh r (List.mem_of_getElem? h)
  rw [hp] at this; cases this
theorem all_yes {p : Nat → Bool} {l : List Nat} (h : ∀ (i r : Nat), l[i]? = some r → p r = true) : l.all p = true := by
  rw [List.all_eq_true]
  intro x hx
  obtain ⟨i, hi, rfl⟩ := List.getElem_of_mem hx
  exact h i _ (List.getElem?_eq_getElem hi)
set_option maxRecDepth 100000 in
set_option maxHeartbeats 2000000 in
theorem refIri_any (s : ByteArray) (w : World) (hs : s.size ≤ 1000) (hT : Tabs w) : Calls Tryd.prog 85 #[.string s] w fun e w' => e = .returned (.bool (iriB s)) ∧ Below w.heap.size w w' := by
  have CV := Aside0.mk (valid_any s w (by omega) hT)
  have hs2 : (s.size : Int) ≤ 1000 := by omega
  cases hv : validB s with
  | false =>
    rw [hv] at CV
    have HE : Aside0 (iriB s = false) := ⟨by unfold iriB; rw [hv]; simp⟩
    clear hv
    go_enter Tryd.func85, Tryd.ntmps85
    go_wp2_with (go_at_call 111; (with_reducible refine CV.out.mono ?_); rintro e w1 ⟨rfl, hb⟩; have HB1 := Aside0.mk hb; clear hb)
    go_ret
    exact ⟨ret_b HE.out.symm, HB1.out⟩
  | true =>
    rw [hv] at CV
    by_cases h0 : 0 < s.size
    · by_cases h6 : s.size ≤ 60
      · have g0 : (1 : Int) ≤ (s.size : Int) := by omega
        have g6 : (s.size : Int) ≤ 60 := by omega
        have HE : Aside0 (iriB s = (runes s).all iriRuneB) := ⟨by unfold iriB; simp [hv, h0, h6]⟩
        obtain ⟨F, g, hconv, hFB, hFC⟩ := conv_runes s hs
        obtain ⟨R, hR⟩ : ∃ R, R = runes s := ⟨_, rfl⟩
        rw [← hR] at HE hFC
        simp only [← hR] at hconv
        have HFB := Aside0.mk hFB
        have HFC := Aside0.mk hFC
        have CR := Aside0.mk refRune_any
        have hlen : R.length ≤ 1000 := by
          rw [hR]
          have h1 := runes_conv s
          have h2 := size_runesFrom s s.size 0 #[]
          rw [← Array.length_toList, h1, List.length_map] at h2
          simp at h2; omega
        clear hv h0 h6 hR hFB hFC
        go_enter Tryd.func85, Tryd.ntmps85
        go_wp2_with (go_at_call 111; (with_reducible refine CV.out.mono ?_); rintro e w1 ⟨rfl, hb⟩; have HB1 := Aside0.mk hb; clear hb)
        have HB2 := Aside0.mk (below_then HB1.out HB1.out.size (HFB.out w1))
        have HC2 := Aside0.mk (HFC.out w1)
        go_loop [4] (fun x => ∃ k : Nat, k ≤ R.length ∧ x = .int .i64 k ∧ Aside0 (∀ i r, i < k → R[i]? = some r → iriRuneB r = true)) (fun x => R.length - (intOf x).toNat)
        case atStart => exact ⟨0, by omega, rfl, ⟨fun i r hi => by omega⟩⟩
        case round =>
          obtain ⟨k, hk, rfl, HK⟩ := hrel
          by_cases hlt : k < R.length
          · obtain ⟨r, hr⟩ : ∃ r, R[k]? = some r := ⟨R[k], List.getElem?_eq_getElem hlt⟩
            have hcell := HC2.out k r hr
            have hk2 : (0 : Int) ≤ (k : Int) := by omega
            have hk3 : (k : Int) < (R.length : Int) := by omega
            have CK := CR.out r (F w1)
            have HRR := Aside0.mk hr
            cases hc : iriRuneB r with
            | true =>
              rw [hc] at CK
              have CK := Aside0.mk CK
              have HC := Aside0.mk hc
              clear hc hr hconv
              go_wp2_with (go_at_call 112; (with_reducible refine CK.out.mono ?_); rintro e w3 ⟨rfl, rfl⟩)
              go_round
              case rel => exact ⟨k + 1, by omega, by go_num, ⟨fun i q hi hq => by
                by_cases h : i < k
                · exact HK.out i q h hq
                · obtain rfl : i = k := by omega
                  have : r = q := Option.some.inj (HRR.out.symm.trans hq)
                  rw [← this]; exact HC.out⟩⟩
              case measure => simp [intOf]; omega
            | false =>
              rw [hc] at CK
              have CK := Aside0.mk CK
              have HC := Aside0.mk (all_no hr hc)
              clear hc hr hconv
              go_wp2_with (go_at_call 112; (with_reducible refine CK.out.mono ?_); rintro e w3 ⟨rfl, rfl⟩)
              go_ret
              exact ⟨ret_b (by rw [HE.out, HC.out]), HB2.out⟩
          · have hks : k = R.length := by omega
            have HY := Aside0.mk (all_yes (fun i r hi => HK.out i r (by rw [hks]; exact (List.getElem?_eq_some_iff.1 hi).1) hi))
            have hk2 : (k : Int) = (R.length : Int) := by omega
            subst hks
            clear hconv hk2
            go_wp2_with fail
            go_ret
            exact ⟨ret_b (by rw [HE.out, HY.out]), HB2.out⟩
      · have g0 : (1 : Int) ≤ (s.size : Int) := by omega
        have g6 : (60 : Int) < (s.size : Int) := by omega
        have HE : Aside0 (iriB s = false) := ⟨by unfold iriB; simp [h6]⟩
        clear hv h0 h6
        go_enter Tryd.func85, Tryd.ntmps85
        go_wp2_with (go_at_call 111; (with_reducible refine CV.out.mono ?_); rintro e w1 ⟨rfl, hb⟩; have HB1 := Aside0.mk hb; clear hb)
        go_ret
        exact ⟨ret_b HE.out.symm, HB1.out⟩
    · have g0 : (s.size : Int) < 1 := by omega
      have HE : Aside0 (iriB s = false) := ⟨by unfold iriB; simp [h0]⟩
      clear hv h0
      go_enter Tryd.func85, Tryd.ntmps85
      go_wp2_with (go_at_call 111; (with_reducible refine CV.out.mono ?_); rintro e w1 ⟨rfl, hb⟩; have HB1 := Aside0.mk hb; clear hb)
      go_ret
      exact ⟨ret_b HE.out.symm, HB1.out⟩
end Go.Proofs.YtbaegfjoionojaaDoor.Tm
