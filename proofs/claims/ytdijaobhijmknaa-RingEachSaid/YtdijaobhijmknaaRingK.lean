/- The walk of the law's known. -/
import Derived.Test.YtdijaobhijmknaaRingJ
set_option linter.unusedSimpArgs false
set_option linter.unusedVariables false
namespace Go.Proofs.Ytdijaobhijmknaa.Rg
open Go Go.RowKit Go.Proofs.YtdijaobhijmknaaW.PrintWords Go.Proofs.YtdijaobhijmknaaW.PrintLast Go.Proofs.YtdijaobhijmknaaW.PrintMore
attribute [local go_sem] max2_int min2_int max_two min_two

theorem reps_T : ∀ ts : List Tri, Reps (fun (t : Tri) (cs : List Value) => cs = t.cells) 3 ts (ts.flatMap Tri.cells)
  | [] => Reps.none _ _
  | a :: l => by
    have h1 : Reps (fun (t : Tri) (cs : List Value) => cs = t.cells) 3 [a] a.cells := by
      have := (Reps.none (fun (t : Tri) (cs : List Value) => cs = t.cells) 3).snoc (p := a) (c := a.cells) rfl rfl
      simpa using this
    have := Kd.reps_append h1 (reps_T l)
    simpa using this
/-- A literal of triples: a row of its own. -/
theorem litT_R (w : World) (base : Nat) (ts : List Tri) (hb : base ≤ w.heap.size) (hm : ts.length ≤ 9223372036854775807) : Kd.R kT 54 (w.alloc (.cells (ts.flatMap Tri.cells).toArray 54)) base (fun _ => True) (.slice (some ⟨w.heap.size, 0, none⟩) ts.length ts.length) ts :=
  ⟨fun _ _ => trivial, OwnRow.lit w base (reps_T ts) hb hm⟩
theorem litT_C (w : World) (ts : List Tri) (hm : ts.length ≤ 9223372036854775807) : Kd.C kT (w.alloc (.cells (ts.flatMap Tri.cells).toArray 54)) (some ⟨w.heap.size, 0, none⟩) ts.length ts :=
  (Bs.reads_n (litT_R w w.heap.size ts (Nat.le_refl _) hm)).2.2
/-- New of triples that may be. -/
theorem new_ok (A : Option Addr) (c : Nat) (ts : List Tri) (w : World) (hr : Kd.C kT w A ts.length ts) (hm : mayB ts = true) :
    Calls Try.prog 45 #[.slice A ts.length c] w fun e w' => ∃ r, e = .returned (.tuple #[r, .int .i64 0]) ∧ IsRing w' r ts ∧ OwnL w.heap.size w' r ts ∧ Below w.heap.size w w' := by
  have hl : ts.length ≤ 100 := by unfold mayB at hm; simp at hm; exact hm.2
  refine (new_any A c ts w hr hl).mono ?_
  rintro e w' (⟨_, h⟩ | ⟨h, _⟩)
  · exact h
  · rw [hm] at h; cases h
theorem new_no (A : Option Addr) (c : Nat) (ts : List Tri) (w : World) (hr : Kd.C kT w A ts.length ts) (hm : mayB ts = false) :
    Calls Try.prog 45 #[.slice A ts.length c] w fun e w' => e = .returned (.tuple #[.pointer none, .int .i64 1]) ∧ Below w.heap.size w w' := by
  by_cases hl : ts.length ≤ 100
  · refine (new_any A c ts w hr hl).mono ?_
    rintro e w' (⟨h, _⟩ | ⟨_, h⟩)
    · rw [hm] at h; cases h
    · exact h
  · refine (new_long A c ts w (by omega)).mono ?_
    rintro e w' (⟨h, _⟩ | ⟨_, h⟩)
    · rw [hm] at h; cases h
    · exact h
theorem IsRing.ptr {w : World} {r : Value} {ts : List Tri} (h : IsRing w r ts) : ∃ b, r = .pointer (some ⟨b, 0, none⟩) := by
  obtain ⟨b, _, _, _, _, _, h, _⟩ := h
  exact ⟨b, h⟩
theorem ring_count {r : Value} (p : Tri) (ts : List Tri) (w : World) (h : IsL w r ts) (hl : ts.length ≤ 1000) :
    Calls Try.prog 50 #[r, p.val] w fun e w' => e = .returned (.int .i64 ((allL ts p).length : Int)) ∧ Below w.heap.size w w' :=
  count_of p _ w (fun w1 hb => all_any p ts w1 (h.below hb) hl)
theorem match_zero (t : Tri) : matchB ⟨0, 0, 0⟩ t = true := rfl
theorem all_zero (ts : List Tri) : allL ts ⟨0, 0, 0⟩ = ts := by unfold allL; rw [List.filter_eq_self]; exact fun t _ => rfl
theorem ring_len {r : Value} (ts : List Tri) (w : World) (h : IsL w r ts) (hl : ts.length ≤ 1000) :
    Calls Try.prog 49 #[r] w fun e w' => e = .returned (.int .i64 (ts.length : Int)) ∧ Below w.heap.size w w' := by
  have := len_of (r := r) (allL ts ⟨0, 0, 0⟩) w (all_any ⟨0, 0, 0⟩ ts w h hl)
  rwa [all_zero] at this
set_option maxRecDepth 100000 in
set_option maxHeartbeats 1000000 in
theorem known_any (w : World) : Calls Try.prog 47 #[] w fun e w' => e = .returned (.bool true) ∧ Below w.heap.size w w' := by
  obtain ⟨ts, hts⟩ : ∃ ts : List Tri, ts = [⟨1, 5, 7⟩, ⟨3, 5, 7⟩] := ⟨_, rfl⟩
  have hl2 : ts.length = 2 := by rw [hts]; rfl
  have h1 : nextC ts ⟨0, 0, 7⟩ 0 2 = 3 := by rw [hts]; decide
  have h2 : ((allL ts ⟨0, 5, 0⟩).length : Int) = 2 := by rw [hts]; decide
  have hm : mayB ts = true := by rw [hts]; decide
  have HC : Kd.C kT (w.alloc (.cells #[.int .i64 1, .int .i64 5, .int .i64 7, .int .i64 3, .int .i64 5, .int .i64 7] 54)) (some ⟨w.heap.size, 0, none⟩) ts.length ts := by
    rw [hts]; exact litT_C w [⟨1, 5, 7⟩, ⟨3, 5, 7⟩] (by decide)
  have CN := new_ok (some ⟨w.heap.size, 0, none⟩) 2 ts _ HC hm
  rw [hl2] at CN
  have CN := Aside0.mk CN
  have HB0 := Aside0.mk (below_alloc (Below.refl w.heap.size w) (.cells #[.int .i64 1, .int .i64 5, .int .i64 7, .int .i64 3, .int .i64 5, .int .i64 7] 54))
  have C1 := Aside0.mk (fun r W (h : IsRing W r ts) => next_any (r := r) ⟨0, 0, 7⟩ 0 2 ts W h (by omega))
  have C2 := Aside0.mk (fun r W (h : IsRing W r ts) => ring_count (r := r) ⟨0, 5, 0⟩ ts W h.l (by omega))
  have C3 := Aside0.mk (fun r W (h : IsRing W r ts) => ring_len (r := r) ts W h.l (by omega))
  rw [h1] at C1
  rw [h2] at C2
  simp only [hl2] at C3
  unfold Tri.val at C1 C2
  clear hts hl2 h1 h2 hm HC
  go_enter Try.func47, Try.ntmps47
  go_wp2_with (first
    | (go_at_call 45; (with_reducible refine CN.out.mono ?_); rintro e w1 ⟨r, rfl, hr, _, hb⟩; have HR := Aside0.mk hr; have HB := Aside0.mk (HB0.out.trans (hb.mono HB0.out.size)); obtain ⟨rb, e2⟩ := hr.ptr; subst e2; clear hr hb)
    | (go_at_call 53; (with_reducible refine (C1.out _ _ HR.out).mono ?_); rintro e w2 ⟨rfl, hb⟩; have HR2 := Aside0.mk (HR.out.below hb); have HB2 := Aside0.mk (below_step HB.out hb); clear hb)
    | (go_at_call 50; (with_reducible refine (C2.out _ _ HR2.out).mono ?_); rintro e w3 ⟨rfl, hb⟩; have HR3 := Aside0.mk (HR2.out.below hb); have HB3 := Aside0.mk (below_step HB2.out hb); clear hb)
    | (go_at_call 49; (with_reducible refine (C3.out _ _ HR3.out).mono ?_); rintro e w4 ⟨rfl, hb⟩; have HB4 := Aside0.mk (below_step HB3.out hb); clear hb))
  go_ret
  exact ⟨rfl, HB4.out⟩
end Go.Proofs.Ytdijaobhijmknaa.Rg
