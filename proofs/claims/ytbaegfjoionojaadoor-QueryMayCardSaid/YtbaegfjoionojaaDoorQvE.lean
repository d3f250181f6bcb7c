/- The reference's end. -/
import Derived.Test.YtbaegfjoionojaaDoorQvD
import Derived.Test.YtbaegfjoionojaaDoorTmI
set_option linter.unusedSimpArgs false
set_option linter.unusedVariables false
namespace Go.Proofs.YtbaegfjoionojaaDoor.Qy
open Go Go.RowKit Go.Proofs.YtbaegfjoionojaaDoor.Tm Go.Proofs.YtbaegfjoionojaaDoorW.PrintWords

theorem refName_below (s : ByteArray) (hs : s.size ≤ 140737488351232) (w : World) : Calls Tryd.prog 109 #[.string s] w fun e w' => e = .returned (.bool (nameB s)) ∧ Below w.heap.size w w' :=
  (refName_any s hs w).mono fun e w' h => ⟨h.1, by rw [h.2]; exact Below.refl _ _⟩
set_option maxRecDepth 100000 in
set_option maxHeartbeats 8000000 in
theorem refEnd_any_A (v : ByteArray) (k : Int) (t x : ByteArray) (hk : k ≠ 0) (hz : 0 < v.size) (hv : v.size ≤ 1000) (ht : t.size ≤ 1000) (hx : x.size ≤ 1000) (w : World) (hT : Tabs w) : Calls Tryd.prog 82 #[.agg #[.string v, .int .i64 k, .string t, .string x]] w fun e w' => e = .returned (.bool (endB ⟨v, ⟨k, t, x⟩⟩)) ∧ Below w.heap.size w w' := by
  obtain ⟨wb, hwb, HB, HN⟩ := boxE w v k t x
  have HHW : Aside0 (w.alloc (.cells #[.string v, .int .i64 k, .string t, .string x] 76) = wb) := ⟨hwb.symm⟩
  have CN := Aside0.mk (refName_below v (by omega) wb)
  have HE : Aside0 (endB ⟨v, ⟨k, t, x⟩⟩ = (nameB v && false)) := ⟨by unfold endB; rw [if_neg (show ¬ v.size = 0 by omega)]; rw [show noT k t x = false from noT_A t x hk]⟩
  obtain ⟨t1, t2, t3⟩ := name_ne hz
  have t4 := list_ne hz
  have n1 : (k == 0) = false := by rw [beq_eq_false_iff_ne]; exact hk
  obtain ⟨b2, hb2⟩ : ∃ b, nameB v = b := ⟨_, rfl⟩
  rw [hb2] at CN HE
  clear hwb hT hb2 hz hk
  cases b2 with
  | true =>
    go_enter Tryd.func82, Tryd.ntmps82
    go_upto_region 1 with (fail)
    rw [HHW.out]
    have q0 := blk_cell HN.out 0; have q1 := blk_cell HN.out 1; have q2 := blk_cell HN.out 2; have q3 := blk_cell HN.out 3; simp at q0 q1 q2 q3
    go_wp2_with (go_at_call 109; (with_reducible refine CN.out.mono ?_); rintro e w1 ⟨rfl, hb⟩; have HB1 := Aside0.mk hb; clear hb; clear q0 q1 q2 q3; have q0 := blk_cell (blk_below HN.out HB1.out) 0; have q1 := blk_cell (blk_below HN.out HB1.out) 1; have q2 := blk_cell (blk_below HN.out HB1.out) 2; have q3 := blk_cell (blk_below HN.out HB1.out) 3; simp at q0 q1 q2 q3)
    go_ret
    exact ⟨ret_bb HE.out.symm, e_then HB.out HB1.out⟩
  | false =>
    go_enter Tryd.func82, Tryd.ntmps82
    go_upto_region 1 with (fail)
    rw [HHW.out]
    have q0 := blk_cell HN.out 0; have q1 := blk_cell HN.out 1; have q2 := blk_cell HN.out 2; have q3 := blk_cell HN.out 3; simp at q0 q1 q2 q3
    go_wp2_with (go_at_call 109; (with_reducible refine CN.out.mono ?_); rintro e w1 ⟨rfl, hb⟩; have HB1 := Aside0.mk hb; clear hb; clear q0 q1 q2 q3; have q0 := blk_cell (blk_below HN.out HB1.out) 0; have q1 := blk_cell (blk_below HN.out HB1.out) 1; have q2 := blk_cell (blk_below HN.out HB1.out) 2; have q3 := blk_cell (blk_below HN.out HB1.out) 3; simp at q0 q1 q2 q3)
    go_ret
    exact ⟨ret_bb HE.out.symm, e_then HB.out HB1.out⟩
set_option maxRecDepth 100000 in
set_option maxHeartbeats 8000000 in
theorem refEnd_any_B (v : ByteArray) (t x : ByteArray) (hk : 0 < t.size) (hz : 0 < v.size) (hv : v.size ≤ 1000) (ht : t.size ≤ 1000) (hx : x.size ≤ 1000) (w : World) (hT : Tabs w) : Calls Tryd.prog 82 #[.agg #[.string v, .int .i64 0, .string t, .string x]] w fun e w' => e = .returned (.bool (endB ⟨v, ⟨0, t, x⟩⟩)) ∧ Below w.heap.size w w' := by
  obtain ⟨wb, hwb, HB, HN⟩ := boxE w v 0 t x
  have HHW : Aside0 (w.alloc (.cells #[.string v, .int .i64 0, .string t, .string x] 76) = wb) := ⟨hwb.symm⟩
  have CN := Aside0.mk (refName_below v (by omega) wb)
  have HE : Aside0 (endB ⟨v, ⟨0, t, x⟩⟩ = (nameB v && false)) := ⟨by unfold endB; rw [if_neg (show ¬ v.size = 0 by omega)]; rw [show noT 0 t x = false from noT_B 0 x hk]⟩
  obtain ⟨t1, t2, t3⟩ := name_ne hz
  have t4 := list_ne hz
  obtain ⟨n1, n2, n3⟩ := name_ne hk
  have n4 := list_ne hk
  obtain ⟨b2, hb2⟩ : ∃ b, nameB v = b := ⟨_, rfl⟩
  rw [hb2] at CN HE
  clear hwb hT hb2 hz hk
  cases b2 with
  | true =>
    go_enter Tryd.func82, Tryd.ntmps82
    go_upto_region 1 with (fail)
    rw [HHW.out]
    have q0 := blk_cell HN.out 0; have q1 := blk_cell HN.out 1; have q2 := blk_cell HN.out 2; have q3 := blk_cell HN.out 3; simp at q0 q1 q2 q3
    go_wp2_with (go_at_call 109; (with_reducible refine CN.out.mono ?_); rintro e w1 ⟨rfl, hb⟩; have HB1 := Aside0.mk hb; clear hb; clear q0 q1 q2 q3; have q0 := blk_cell (blk_below HN.out HB1.out) 0; have q1 := blk_cell (blk_below HN.out HB1.out) 1; have q2 := blk_cell (blk_below HN.out HB1.out) 2; have q3 := blk_cell (blk_below HN.out HB1.out) 3; simp at q0 q1 q2 q3)
    go_ret
    exact ⟨ret_bb HE.out.symm, e_then HB.out HB1.out⟩
  | false =>
    go_enter Tryd.func82, Tryd.ntmps82
    go_upto_region 1 with (fail)
    rw [HHW.out]
    have q0 := blk_cell HN.out 0; have q1 := blk_cell HN.out 1; have q2 := blk_cell HN.out 2; have q3 := blk_cell HN.out 3; simp at q0 q1 q2 q3
    go_wp2_with (go_at_call 109; (with_reducible refine CN.out.mono ?_); rintro e w1 ⟨rfl, hb⟩; have HB1 := Aside0.mk hb; clear hb; clear q0 q1 q2 q3; have q0 := blk_cell (blk_below HN.out HB1.out) 0; have q1 := blk_cell (blk_below HN.out HB1.out) 1; have q2 := blk_cell (blk_below HN.out HB1.out) 2; have q3 := blk_cell (blk_below HN.out HB1.out) 3; simp at q0 q1 q2 q3)
    go_ret
    exact ⟨ret_bb HE.out.symm, e_then HB.out HB1.out⟩
set_option maxRecDepth 100000 in
set_option maxHeartbeats 8000000 in
theorem refEnd_any_C (v : ByteArray) (x : ByteArray) (hk : 0 < x.size) (hz : 0 < v.size) (hv : v.size ≤ 1000) (ht : (⟨#[]⟩ : ByteArray).size ≤ 1000) (hx : x.size ≤ 1000) (w : World) (hT : Tabs w) : Calls Tryd.prog 82 #[.agg #[.string v, .int .i64 0, .string ⟨#[]⟩, .string x]] w fun e w' => e = .returned (.bool (endB ⟨v, ⟨0, ⟨#[]⟩, x⟩⟩)) ∧ Below w.heap.size w w' := by
  obtain ⟨wb, hwb, HB, HN⟩ := boxE w v 0 ⟨#[]⟩ x
  have HHW : Aside0 (w.alloc (.cells #[.string v, .int .i64 0, .string ⟨#[]⟩, .string x] 76) = wb) := ⟨hwb.symm⟩
  have CN := Aside0.mk (refName_below v (by omega) wb)
  have HE : Aside0 (endB ⟨v, ⟨0, ⟨#[]⟩, x⟩⟩ = (nameB v && false)) := ⟨by unfold endB; rw [if_neg (show ¬ v.size = 0 by omega)]; rw [show noT 0 ⟨#[]⟩ x = false from noT_C 0 ⟨#[]⟩ hk]⟩
  obtain ⟨t1, t2, t3⟩ := name_ne hz
  have t4 := list_ne hz
  obtain ⟨n1, n2, n3⟩ := name_ne hk
  have n4 := list_ne hk
  obtain ⟨b2, hb2⟩ : ∃ b, nameB v = b := ⟨_, rfl⟩
  rw [hb2] at CN HE
  clear hwb hT hb2 hz hk
  cases b2 with
  | true =>
    go_enter Tryd.func82, Tryd.ntmps82
    go_upto_region 1 with (fail)
    rw [HHW.out]
    have q0 := blk_cell HN.out 0; have q1 := blk_cell HN.out 1; have q2 := blk_cell HN.out 2; have q3 := blk_cell HN.out 3; simp at q0 q1 q2 q3
    go_wp2_with (go_at_call 109; (with_reducible refine CN.out.mono ?_); rintro e w1 ⟨rfl, hb⟩; have HB1 := Aside0.mk hb; clear hb; clear q0 q1 q2 q3; have q0 := blk_cell (blk_below HN.out HB1.out) 0; have q1 := blk_cell (blk_below HN.out HB1.out) 1; have q2 := blk_cell (blk_below HN.out HB1.out) 2; have q3 := blk_cell (blk_below HN.out HB1.out) 3; simp at q0 q1 q2 q3)
    go_ret
    exact ⟨ret_bb HE.out.symm, e_then HB.out HB1.out⟩
  | false =>
    go_enter Tryd.func82, Tryd.ntmps82
    go_upto_region 1 with (fail)
    rw [HHW.out]
    have q0 := blk_cell HN.out 0; have q1 := blk_cell HN.out 1; have q2 := blk_cell HN.out 2; have q3 := blk_cell HN.out 3; simp at q0 q1 q2 q3
    go_wp2_with (go_at_call 109; (with_reducible refine CN.out.mono ?_); rintro e w1 ⟨rfl, hb⟩; have HB1 := Aside0.mk hb; clear hb; clear q0 q1 q2 q3; have q0 := blk_cell (blk_below HN.out HB1.out) 0; have q1 := blk_cell (blk_below HN.out HB1.out) 1; have q2 := blk_cell (blk_below HN.out HB1.out) 2; have q3 := blk_cell (blk_below HN.out HB1.out) 3; simp at q0 q1 q2 q3)
    go_ret
    exact ⟨ret_bb HE.out.symm, e_then HB.out HB1.out⟩
set_option maxRecDepth 100000 in
set_option maxHeartbeats 8000000 in
theorem refEnd_any_D (v : ByteArray)   (hz : 0 < v.size) (hv : v.size ≤ 1000) (ht : (⟨#[]⟩ : ByteArray).size ≤ 1000) (hx : (⟨#[]⟩ : ByteArray).size ≤ 1000) (w : World) (hT : Tabs w) : Calls Tryd.prog 82 #[.agg #[.string v, .int .i64 0, .string ⟨#[]⟩, .string ⟨#[]⟩]] w fun e w' => e = .returned (.bool (endB ⟨v, ⟨0, ⟨#[]⟩, ⟨#[]⟩⟩⟩)) ∧ Below w.heap.size w w' := by
  obtain ⟨wb, hwb, HB, HN⟩ := boxE w v 0 ⟨#[]⟩ ⟨#[]⟩
  have HHW : Aside0 (w.alloc (.cells #[.string v, .int .i64 0, .string ⟨#[]⟩, .string ⟨#[]⟩] 76) = wb) := ⟨hwb.symm⟩
  have CN := Aside0.mk (refName_below v (by omega) wb)
  have HE : Aside0 (endB ⟨v, ⟨0, ⟨#[]⟩, ⟨#[]⟩⟩⟩ = (nameB v && true)) := ⟨by unfold endB; rw [if_neg (show ¬ v.size = 0 by omega)]; rw [show noT 0 ⟨#[]⟩ ⟨#[]⟩ = true from noT_D]⟩
  obtain ⟨t1, t2, t3⟩ := name_ne hz
  have t4 := list_ne hz
  obtain ⟨b2, hb2⟩ : ∃ b, nameB v = b := ⟨_, rfl⟩
  rw [hb2] at CN HE
  clear hwb hT hb2 hz 
  cases b2 with
  | true =>
    go_enter Tryd.func82, Tryd.ntmps82
    go_upto_region 1 with (fail)
    rw [HHW.out]
    have q0 := blk_cell HN.out 0; have q1 := blk_cell HN.out 1; have q2 := blk_cell HN.out 2; have q3 := blk_cell HN.out 3; simp at q0 q1 q2 q3
    go_wp2_with (go_at_call 109; (with_reducible refine CN.out.mono ?_); rintro e w1 ⟨rfl, hb⟩; have HB1 := Aside0.mk hb; clear hb; clear q0 q1 q2 q3; have q0 := blk_cell (blk_below HN.out HB1.out) 0; have q1 := blk_cell (blk_below HN.out HB1.out) 1; have q2 := blk_cell (blk_below HN.out HB1.out) 2; have q3 := blk_cell (blk_below HN.out HB1.out) 3; simp at q0 q1 q2 q3)
    go_ret
    exact ⟨ret_bb HE.out.symm, e_then HB.out HB1.out⟩
  | false =>
    go_enter Tryd.func82, Tryd.ntmps82
    go_upto_region 1 with (fail)
    rw [HHW.out]
    have q0 := blk_cell HN.out 0; have q1 := blk_cell HN.out 1; have q2 := blk_cell HN.out 2; have q3 := blk_cell HN.out 3; simp at q0 q1 q2 q3
    go_wp2_with (go_at_call 109; (with_reducible refine CN.out.mono ?_); rintro e w1 ⟨rfl, hb⟩; have HB1 := Aside0.mk hb; clear hb; clear q0 q1 q2 q3; have q0 := blk_cell (blk_below HN.out HB1.out) 0; have q1 := blk_cell (blk_below HN.out HB1.out) 1; have q2 := blk_cell (blk_below HN.out HB1.out) 2; have q3 := blk_cell (blk_below HN.out HB1.out) 3; simp at q0 q1 q2 q3)
    go_ret
    exact ⟨ret_bb HE.out.symm, e_then HB.out HB1.out⟩
set_option maxRecDepth 100000 in
set_option maxHeartbeats 8000000 in
theorem refEnd_any (a : Ed) (hv : a.v.size ≤ 1000) (ht : a.tm.t.size ≤ 1000) (hx : a.tm.x.size ≤ 1000) (w : World) (hT : Tabs w) : Calls Tryd.prog 82 #[.agg #[.string a.v, .int .i64 a.tm.k, .string a.tm.t, .string a.tm.x]] w fun e w' => e = .returned (.bool (endB a)) ∧ Below w.heap.size w w' := by
  obtain ⟨v, ⟨k, t, x⟩⟩ := a
  simp only at hv ht hx ⊢
  by_cases hz : 0 < v.size
  · by_cases hk : k = 0
    · subst hk
      by_cases h2 : 0 < t.size
      · exact refEnd_any_B v t x h2 hz hv ht hx w hT
      · obtain rfl := empty_list (show t.size = 0 by omega)
        by_cases h3 : 0 < x.size
        · exact refEnd_any_C v x h3 hz hv ht hx w hT
        · obtain rfl := empty_list (show x.size = 0 by omega)
          exact refEnd_any_D v hz hv ht hx w hT
    · exact refEnd_any_A v k t x hk hz hv ht hx w hT
  · obtain rfl := empty_list (show v.size = 0 by omega)
    obtain ⟨wb, hwb, HB, HN⟩ := boxE w ⟨#[]⟩ k t x
    have HHW : Aside0 (w.alloc (.cells #[.string ⟨#[]⟩, .int .i64 k, .string t, .string x] 76) = wb) := ⟨hwb.symm⟩
    have CI : Aside0 (Calls Tryd.prog 110 #[.agg #[.int .i64 k, .string t, .string x]] wb fun e w' => e = .returned (.bool (isB ⟨k, t, x⟩)) ∧ Below wb.heap.size wb w') := ⟨refIs_any ⟨k, t, x⟩ wb ht hx (hT.below HB.out)⟩
    obtain ⟨b1, hb1⟩ : ∃ b, isB ⟨k, t, x⟩ = b := ⟨_, rfl⟩
    have HE : Aside0 (endB ⟨⟨#[]⟩, ⟨k, t, x⟩⟩ = b1) := ⟨by rw [← hb1]; rfl⟩
    rw [hb1] at CI
    clear hwb hT hb1 hz
    go_enter Tryd.func82, Tryd.ntmps82
    go_upto_region 1 with (fail)
    rw [HHW.out]
    have q0 := blk_cell HN.out 0; have q1 := blk_cell HN.out 1; have q2 := blk_cell HN.out 2; have q3 := blk_cell HN.out 3; simp at q0 q1 q2 q3
    go_wp2_with (go_at_call 110; (with_reducible refine CI.out.mono ?_); rintro e w1 ⟨rfl, hb⟩; have HB1 := Aside0.mk hb; clear hb)
    go_ret
    exact ⟨ret_bb HE.out.symm, e_then HB.out HB1.out⟩
end Go.Proofs.YtbaegfjoionojaaDoor.Qy
