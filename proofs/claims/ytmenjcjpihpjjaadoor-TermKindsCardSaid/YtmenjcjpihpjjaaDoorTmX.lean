/- What the law TermKinds wants beside: the reference's Is of a long label; plain facts of its five terms. -/
import Derived.Test.YtmenjcjpihpjjaaDoorTmT
import Derived.Test.YtmenjcjpihpjjaaDoorTmW
import Derived.Lib.ValidLaws
set_option linter.unusedSimpArgs false
set_option linter.unusedVariables false
namespace Go.Proofs.YtmenjcjpihpjjaaDoor.Tm
open Go Go.RowKit Go.Shelf Go.Proofs.YtmenjcjpihpjjaaDoorW.PrintWords

set_option maxHeartbeats 1000000 in
theorem refLabel_big (s : ByteArray) (w : World) (hs : s.size ≤ 140737488351232) : Calls Tryd.prog 28 #[.string s] w fun e w' => e = .returned (.bool (labelB s)) ∧ w' = w := by
  have HNO := Aside0.mk (fun i (hi : i < s.size) h => label_no (s := s) hi h)
  have HYES := Aside0.mk (fun h => label_yes (s := s) h)
  have CA := Aside0.mk (fun x => alnum_any x w)
  have hs2 : (s.size : Int) ≤ 140737488351232 := by omega
  go_enter Tryd.func28, Tryd.ntmps28
  go_wp2_with fail
  go_loop [3] (fun x => ∃ k : Nat, k ≤ s.size ∧ x = .int .i64 k ∧ Aside0 (∀ i, i < k → alnumB (byteAt s i) = true)) (fun x => s.size - (intOf x).toNat)
  case atStart => exact ⟨0, by omega, rfl, ⟨fun i hi => by omega⟩⟩
  case round =>
    obtain ⟨k, hk, rfl, HK⟩ := hrel
    by_cases hlt : k < s.size
    · have CK := CA.out s[k].toNat
      have hbg := byte_get s k hlt
      cases hc : alnumB (byteAt s k) with
      | true =>
        rw [hbg, hc, ← hbg] at CK
        have CK := Aside0.mk CK
        have HC := Aside0.mk hc
        clear hc hbg
        go_wp2_with (go_at_call 60; (with_reducible refine CK.out.mono ?_); rintro e w1 ⟨rfl, rfl⟩)
        go_round
        case rel => exact ⟨k + 1, by omega, by go_num, ⟨fun i hi => by
          by_cases h : i < k
          · exact HK.out i h
          · obtain rfl : i = k := by omega
            exact HC.out⟩⟩
        case measure => simp [intOf]; omega
      | false =>
        rw [hbg, hc, ← hbg] at CK
        have CK := Aside0.mk CK
        have HC := Aside0.mk (HNO.out k hlt hc)
        clear hc hbg
        go_wp2_with (go_at_call 60; (with_reducible refine CK.out.mono ?_); rintro e w1 ⟨rfl, rfl⟩)
        go_ret
        exact ⟨ret_b HC.out.symm, rfl⟩
    · have hks : k = s.size := by omega
      subst hks
      have HY := Aside0.mk (HYES.out HK.out)
      go_wp2_with fail
      all_goals
        go_ret
        exact ⟨ret_b (by rw [HY.out, Bool.eq_iff_iff]; simp only [Bool.and_eq_true, decide_eq_true_eq, Bool.false_eq_true, false_iff]; omega), rfl⟩
set_option maxRecDepth 100000 in
set_option maxHeartbeats 2000000 in
theorem refIs_big (t : ByteArray) (w : World) (ht : t.size ≤ 140737488351232) (h30 : 30 < t.size) (hT : Tabs w) :
    Calls Tryd.prog 14 #[.agg #[.int .i64 2, .string t, .string ⟨#[]⟩]] w fun e w' => e = .returned (.bool false) ∧ Below w.heap.size w w' := by
  have CV := Aside0.mk (fun W (h : Tabs W) => valid_any t W (by omega) h)
  have hl : labelB t = false := by unfold labelB; rw [decide_eq_false (show ¬ t.size ≤ 8 by omega)]; simp
  have CB : Aside0 (∀ W, Calls Tryd.prog 28 #[.string t] W fun e w' => e = .returned (.bool false) ∧ w' = W) := ⟨fun W => by
    have := refLabel_big t W ht
    rwa [hl] at this⟩
  obtain ⟨wb, hwb, HB0⟩ := boxT w 2 t ⟨#[]⟩
  have HT0 := Aside0.mk (hT.below HB0.out)
  have HX0 : Aside0 (BoxedT wb w.heap.size 2 t ⟨#[]⟩) := ⟨by rw [hwb]; exact BoxedT.new w 2 t _ _⟩
  have hsz : (t.size : Int) ≤ 140737488351232 := by omega
  have g30 : (30 : Int) < (t.size : Int) := by omega
  obtain ⟨a, ha⟩ : ∃ a, a = validB t := ⟨_, rfl⟩
  rw [← ha] at CV
  rw [hwb] at HB0 HT0 HX0
  clear ha hwb hT hl h30 ht
  cases a
  all_goals
      go_enter Tryd.func14, Tryd.ntmps14
      go_wp2_with (first
        | (go_at_call 21; (with_reducible refine (CV.out _ HT0.out).mono ?_); rintro e w1 ⟨rfl, hb⟩; have HB1 := Aside0.mk (below_then HB0.out HB0.out.size hb); have HT1 := Aside0.mk (HT0.out.below hb); have HX1 := Aside0.mk (HX0.out.below hb); obtain ⟨y0, y1, y2⟩ := HX1.out; clear hb)
        | (go_at_call 28; (with_reducible refine (CB.out _).mono ?_); rintro e w2 ⟨rfl, rfl⟩))
      go_ret
      exact ⟨rfl, HB1.out⟩
/-- The text beside of the law's terms. -/
def xx (i : Nat) : ByteArray := if i = 3 then ⟨#[101, 110]⟩ else if i = 4 then ⟨#[97, 58, 98]⟩ else ⟨#[]⟩
def kt (s : ByteArray) (i : Nat) : Trm := ⟨(i : Int) + 1, s, xx i⟩
theorem xx_size (i : Nat) : (xx i).size ≤ 3 := by
  unfold xx
  split
  · decide
  · split <;> decide
theorem label_facts {s : ByteArray} (h : labelB s = true) : 0 < s.size ∧ s.size ≤ 8 ∧ validB s = true ∧ (runes s).all iriRuneB = true := by
  unfold labelB at h
  simp only [Bool.and_eq_true, decide_eq_true_eq] at h
  obtain ⟨⟨h0, h8⟩, ha⟩ := h
  refine ⟨h0, h8, ?_, ?_⟩
  · have hb := (low_runes alnum_low s).1 ha
    unfold validB
    rw [Lib.validD_ascii s.data.toList.length s.data.toList (fun b hb2 => by
      rw [List.take_length] at hb2
      obtain ⟨i, hi, rfl⟩ := List.getElem_of_mem hb2
      have hi2 : i < s.size := by rw [← size_list]; exact hi
      have := alnum_low _ (hb i hi2)
      rw [← byte_get s i hi2] at this
      exact this), List.drop_length]
    rfl
  · rw [List.all_eq_true] at ha ⊢
    intro x hx
    have h1 := ha x hx
    have h2 : (48 ≤ x ∧ x ≤ 57) ∨ (65 ≤ x ∧ x ≤ 90) ∨ (97 ≤ x ∧ x ≤ 122) := by
      unfold alnumB letterB smallB upperB digitB at h1; simp at h1; omega
    have ho : oddB x = false := by unfold oddB; simp; omega
    unfold iriRuneB
    rw [decide_eq_true (show 32 < x by omega), decide_eq_true (show x < 127 by omega), ho]; rfl
theorem kt_is {s : ByteArray} (h : labelB s = true) {i : Nat} (hi : i < 5) : isB (kt s i) = true := by
  obtain ⟨h0, h8, hv, hr⟩ := label_facts h
  have hok : okB s = true := by unfold okB; rw [hv, decide_eq_true (show s.size ≤ 30 by omega)]; rfl
  have hir : iriB s = true := by unfold iriB; rw [hv, hr, decide_eq_true h0, decide_eq_true (show s.size ≤ 60 by omega)]; rfl
  have hl : langB ⟨#[101, 110]⟩ = true := by decide +kernel
  have hx : iriB ⟨#[97, 58, 98]⟩ = true := by decide +kernel
  have h4 : i = 0 ∨ i = 1 ∨ i = 2 ∨ i = 3 ∨ i = 4 := by omega
  rcases h4 with rfl | rfl | rfl | rfl | rfl
  · show (iriB s && true) = true; rw [hir]; rfl
  · show (labelB s && true) = true; rw [h]; rfl
  · show (okB s && true) = true; rw [hok]; rfl
  · show (okB s && langB ⟨#[101, 110]⟩) = true; rw [hok, hl]; rfl
  · show (okB s && iriB ⟨#[97, 58, 98]⟩) = true; rw [hok, hx]; rfl
theorem kt_no (s : ByteArray) {i : Nat} (hi : i < 5) : isB ⟨(i : Int) + 1, s, xx i ++ (⟨#[60]⟩ : ByteArray)⟩ = false := by
  have h4 : i = 0 ∨ i = 1 ∨ i = 2 ∨ i = 3 ∨ i = 4 := by omega
  have hl : langB (xx 3 ++ (⟨#[60]⟩ : ByteArray)) = false := by decide +kernel
  have hx : iriB (xx 4 ++ (⟨#[60]⟩ : ByteArray)) = false := by decide +kernel
  rcases h4 with rfl | rfl | rfl | rfl | rfl
  · show (iriB s && decide ((xx 0 ++ (⟨#[60]⟩ : ByteArray)).size = 0)) = false
    rw [show decide ((xx 0 ++ (⟨#[60]⟩ : ByteArray)).size = 0) = false by decide, Bool.and_false]
  · show (labelB s && decide ((xx 1 ++ (⟨#[60]⟩ : ByteArray)).size = 0)) = false
    rw [show decide ((xx 1 ++ (⟨#[60]⟩ : ByteArray)).size = 0) = false by decide, Bool.and_false]
  · show (okB s && decide ((xx 2 ++ (⟨#[60]⟩ : ByteArray)).size = 0)) = false
    rw [show decide ((xx 2 ++ (⟨#[60]⟩ : ByteArray)).size = 0) = false by decide, Bool.and_false]
  · show (okB s && langB (xx 3 ++ (⟨#[60]⟩ : ByteArray))) = false
    rw [hl, Bool.and_false]
  · show (okB s && iriB (xx 4 ++ (⟨#[60]⟩ : ByteArray))) = false
    rw [hx, Bool.and_false]
theorem is_none (s : ByteArray) : isB ⟨0, s, ⟨#[]⟩⟩ = false := rfl
theorem is_six (s : ByteArray) : isB ⟨6, s, ⟨#[]⟩⟩ = false := rfl
theorem kt_show (s : ByteArray) {i j : Nat} (hi : i < 5) (hj : j < 5) : showS (kt s i) = showS (kt s j) ↔ i = j := by
  constructor
  · intro h
    have hl : showL (kt s i) = showL (kt s j) := by
      have := congrArg (fun b : ByteArray => b.data.toList) h
      simpa [showS] using this
    have key : ∀ n, n < 5 → ∃ q : Nat, (showL (kt s n)).head? = some (if n = 0 then 60 else if n = 1 then 95 else 34) ∧ (2 ≤ n → (showL (kt s n)).length = (quoteL (lst s)).length + (if n = 3 then 3 else if n = 4 then 7 else 0)) := by
      intro n hn
      have h4 : n = 0 ∨ n = 1 ∨ n = 2 ∨ n = 3 ∨ n = 4 := by omega
      refine ⟨0, ?_⟩
      rcases h4 with rfl | rfl | rfl | rfl | rfl
      · exact ⟨rfl, fun h => absurd h (by decide)⟩
      · exact ⟨rfl, fun h => absurd h (by decide)⟩
      · exact ⟨rfl, fun _ => rfl⟩
      · refine ⟨rfl, fun _ => ?_⟩
        show (quoteL (lst s) ++ [64] ++ [101, 110]).length = _
        simp
      · refine ⟨rfl, fun _ => ?_⟩
        show (quoteL (lst s) ++ [94, 94, 60] ++ [97, 58, 98] ++ [62]).length = _
        simp
    obtain ⟨_, hh1, hl1⟩ := key i hi
    obtain ⟨_, hh2, hl2⟩ := key j hj
    rw [hl] at hh1 hl1
    have hh := Option.some.inj (hh1.symm.trans hh2)
    have h4 : i = 0 ∨ i = 1 ∨ i = 2 ∨ i = 3 ∨ i = 4 := by omega
    have h5 : j = 0 ∨ j = 1 ∨ j = 2 ∨ j = 3 ∨ j = 4 := by omega
    rcases h4 with rfl | rfl | rfl | rfl | rfl <;> rcases h5 with rfl | rfl | rfl | rfl | rfl <;> first
      | rfl
      | exact absurd hh (by decide)
      | (have a := hl1 (by decide); have b := hl2 (by decide); rw [a] at b; simp at b)
  · rintro rfl; rfl
theorem kt_cmp (s : ByteArray) {i j : Nat} (hi : i < 5) (hj : j < 5) : cmpS (showS (kt s i)) (showS (kt s j)) = 0 ↔ i = j := (cmp_zero _ _).trans (kt_show s hi hj)
end Go.Proofs.YtmenjcjpihpjjaaDoor.Tm
