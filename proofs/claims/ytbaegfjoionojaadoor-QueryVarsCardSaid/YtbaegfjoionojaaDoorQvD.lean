/- Variables' names, ends, ops: the program's and the reference's. -/
import Derived.Test.YtbaegfjoionojaaDoorQvA
import Derived.Test.YtbaegfjoionojaaDoorTmG
set_option linter.unusedSimpArgs false
set_option linter.unusedVariables false
namespace Go.Proofs.YtbaegfjoionojaaDoor.Qy
open Go Go.RowKit Go.Proofs.YtbaegfjoionojaaDoor.Tm Go.Proofs.YtbaegfjoionojaaDoorW.PrintWords

/-- Is a term the one of nothing? -/
def noT (k : Int) (t x : ByteArray) : Bool := k == 0 && (t.toList == [] && x.toList == [])
theorem noT_A {k : Int} (t x : ByteArray) (h : k ≠ 0) : noT k t x = false := by
  unfold noT
  rw [show (k == 0) = false by rw [beq_eq_false_iff_ne]; exact h]; rfl
theorem noT_D : noT 0 ⟨#[]⟩ ⟨#[]⟩ = true := by
  unfold noT
  rw [show (⟨#[]⟩ : ByteArray).toList = [] by rw [tl]]; rfl
/-- May a text be a variable's name? -/
def nameB (s : ByteArray) : Bool := decide (1 ≤ s.size) && decide (s.size ≤ 8) && (s.data.toList.all fun b => smallB b.toNat)
theorem name_no {s : ByteArray} {i : Nat} (h : i < s.size) (hb : smallB (byteAt s i) = false) : nameB s = false := by
  unfold nameB
  have hg : s.data.toList[i]? = some (s.get! i) := by
    have : i < s.data.size := h
    rw [Array.getElem?_toList, Array.getElem?_eq_getElem this]
    rw [show s.get! i = s.data[i]! from rfl, getElem!_pos s.data i this]
  have : (s.data.toList.all fun b => smallB b.toNat) = false := by
    rw [List.all_eq_false]
    exact ⟨s.get! i, List.mem_of_getElem? hg, by rw [show smallB (s.get! i).toNat = false from hb]; decide⟩
  rw [this]; simp
theorem name_yes {s : ByteArray} (h : ∀ i, i < s.size → smallB (byteAt s i) = true) : nameB s = (decide (1 ≤ s.size) && decide (s.size ≤ 8)) := by
  unfold nameB
  have : (s.data.toList.all fun b => smallB b.toNat) = true := by
    rw [List.all_eq_true]
    intro b hb
    obtain ⟨i, hi, e⟩ := List.getElem_of_mem hb
    have hs : i < s.size := by have := size_list s; omega
    have h2 := h i hs
    unfold byteAt at h2
    rw [show s.get! i = s.data[i]! from rfl, getElem!_pos s.data i hs] at h2
    rw [← e]
    simpa using h2
  rw [this, Bool.and_true]
theorem small_iff {x : Nat} : smallB x = true ↔ 97 ≤ x ∧ x ≤ 122 := by unfold smallB; simp
theorem small_no {x : Nat} (h : ¬ (97 ≤ x ∧ x ≤ 122)) : smallB x = false := by
  cases hb : smallB x with
  | false => rfl
  | true => exact absurd (small_iff.1 hb) h
theorem name_ne {t : ByteArray} (h : 0 < t.size) : t.toList.isEmpty = false ∧ (t.toList == []) = false ∧ (t.toList != []) = true := by
  have h1 := string_ne h
  have h2 : t.toList ≠ [] := fun e => by rw [e] at h1; cases h1
  exact ⟨h1, by rw [beq_eq_false_iff_ne]; exact h2, by rw [bne_iff_ne]; exact h2⟩
theorem noT_B (k : Int) {t : ByteArray} (x : ByteArray) (h : 0 < t.size) : noT k t x = false := by
  unfold noT
  rw [(name_ne h).2.1]; simp
theorem noT_C (k : Int) (t : ByteArray) {x : ByteArray} (h : 0 < x.size) : noT k t x = false := by
  unfold noT
  rw [(name_ne h).2.1]; simp
theorem list_ne {t : ByteArray} (h : 0 < t.size) : ¬ t.toList = [] := fun e => by
  have := (name_ne h).1
  rw [e] at this; cases this
theorem ret_bb {a b : Bool} (h : a = b) : Ending.returned (.bool a) = .returned (.bool b) := by rw [h]
theorem byte_get (s : ByteArray) (i : Nat) (h : i < s.size) : s[i].toNat = byteAt s i := by
  unfold byteAt
  rw [show s.get! i = s.data[i]! from rfl, getElem!_pos s.data i h]
  rfl
set_option maxRecDepth 100000 in
set_option maxHeartbeats 8000000 in
theorem refName_any (s : ByteArray) (hs : s.size ≤ 140737488351232) (w : World) : Calls Tryd.prog 109 #[.string s] w fun e w' => e = .returned (.bool (nameB s)) ∧ w' = w := by
  have g2 : (s.size : Int) ≤ 140737488351232 := by omega
  go_enter Tryd.func109, Tryd.ntmps109
  go_wp2_with fail
  go_loopw [3] (fun x wr => ∃ i : Nat, i ≤ s.size ∧ x = .int .i64 i ∧ Aside0 (∀ j, j < i → smallB (byteAt s j) = true) ∧ Aside0 (wr = w)) (fun x _ => s.size - (intOf x).toNat)
  case atStart => exact ⟨0, by omega, rfl, ⟨fun j h => by omega⟩, ⟨rfl⟩⟩
  case round =>
    obtain ⟨i, hi, rfl, HN, hw⟩ := hrel
    obtain rfl := hw.out
    by_cases hin : i < s.size
    · have g0 : (0 : Int) ≤ (i : Int) := by omega
      have g1 : (i : Int) < (s.size : Int) := by omega
      obtain ⟨x, hx⟩ : ∃ x, byteAt s i = x := ⟨_, rfl⟩
      have hxb := byte_get s i hin
      rw [hx] at hxb
      by_cases h1 : x < 97
      · have HE : Aside0 (nameB s = false) := ⟨name_no hin (by rw [hx]; exact small_no (by omega))⟩
        have n1 : decide ((x : Int) < 97) = true := by rw [decide_eq_true_eq]; omega
        clear hx h1
        go_wp2_with fail
        go_ret
        exact ⟨ret_bb HE.out.symm, rfl⟩
      · have n1 : decide ((x : Int) < 97) = false := by rw [decide_eq_false_iff_not]; omega
        by_cases h2 : 122 < x
        · have HE : Aside0 (nameB s = false) := ⟨name_no hin (by rw [hx]; exact small_no (by omega))⟩
          have n2 : decide ((122 : Int) < (x : Int)) = true := by rw [decide_eq_true_eq]; omega
          clear hx h1 h2
          go_wp2_with fail
          go_ret
          exact ⟨ret_bb HE.out.symm, rfl⟩
        · have n2 : decide ((122 : Int) < (x : Int)) = false := by rw [decide_eq_false_iff_not]; omega
          have HN2 : Aside0 (∀ j, j < i + 1 → smallB (byteAt s j) = true) := ⟨fun j hj => by
            by_cases e : j = i
            · subst e; rw [hx]; exact small_iff.2 (by omega)
            · exact HN.out j (by omega)⟩
          clear hx h1 h2
          go_wp2_with fail
          go_roundw
          case rel => exact ⟨i + 1, by omega, by go_num, HN2, ⟨by first | trivial | rfl⟩⟩
          case measure => simp [intOf]; omega
    · have HE : Aside0 (nameB s = (decide (1 ≤ s.size) && decide (s.size ≤ 8))) := ⟨name_yes fun j hj => HN.out j (by omega)⟩
      by_cases h1 : 1 ≤ s.size
      · by_cases h8 : s.size ≤ 8
        · rw [decide_eq_true h1, decide_eq_true h8] at HE
          have n1 : decide ((1 : Int) ≤ (s.size : Int)) = true := by rw [decide_eq_true_eq]; omega
          have n2 : decide ((s.size : Int) ≤ 8) = true := by rw [decide_eq_true_eq]; omega
          go_wp2_with fail
          go_ret
          exact ⟨ret_bb HE.out.symm, rfl⟩
        · rw [decide_eq_true h1, decide_eq_false h8] at HE
          have n1 : decide ((1 : Int) ≤ (s.size : Int)) = true := by rw [decide_eq_true_eq]; omega
          have n2 : decide ((s.size : Int) ≤ 8) = false := by rw [decide_eq_false_iff_not]; omega
          go_wp2_with fail
          go_ret
          exact ⟨ret_bb HE.out.symm, rfl⟩
      · rw [decide_eq_false h1] at HE
        have n1 : decide ((1 : Int) ≤ (s.size : Int)) = false := by rw [decide_eq_false_iff_not]; omega
        go_wp2_with fail
        go_ret
        exact ⟨ret_bb HE.out.symm, rfl⟩
theorem bytes_below (w : World) (e : TypeId) (s : ByteArray) : Below w.heap.size w (Go.Lib.bytesWorld w e s) :=
  ⟨rfl, rfl, rfl, by rw [Go.Lib.bytesWorld_size]; omega, fun j hj => Go.Lib.bytesWorld_at_old w e s j hj⟩
theorem bytes_row (w : World) (s : ByteArray) : ∃ (wv : World) (c : Nat), (convert 9 72 (.string s)).run Tryd.prog w = .ok (.slice (some ⟨w.heap.size, 0, none⟩) s.size c) wv ∧ Aside0 (Below w.heap.size w wv) ∧
    Aside0 (∀ i, i < s.size → wv.cell? ⟨w.heap.size, i, none⟩ = some (.int .u8 (byteAt s i : Int))) := by
  refine ⟨_, _, Go.Lib.run_convert_string_bytes w 9 72 5 s Tryd.underlying9 Tryd.underlying72 Tryd.underlying5, ⟨bytes_below _ _ _⟩, ⟨fun i hi => ?_⟩⟩
  rw [Go.Lib.bytesWorld_cell w _ s i hi]
  have hl : i < s.data.toList.length := by have := size_list s; omega
  have e : s.data.toList.getD i 0 = s.get! i := by
    rw [List.getD_eq_getElem?_getD, List.getElem?_eq_getElem hl]
    rw [show s.get! i = s.data[i]! from rfl, getElem!_pos s.data i hi]
    simp
  rw [e]; rfl
set_option maxRecDepth 100000 in
set_option maxHeartbeats 8000000 in
theorem isVar_any (s : ByteArray) (hs : s.size ≤ 100000) (w : World) : Calls Tryd.prog 108 #[.string s] w fun e w' => e = .returned (.bool (nameB s)) ∧ Below w.heap.size w w' := by
  have g2 : (s.size : Int) ≤ 100000 := by omega
  obtain ⟨wv, cp, hcv, HBv, HCC⟩ := bytes_row w s
  go_enter Tryd.func108, Tryd.ntmps108
  go_wp2_with fail
  clear hcv
  go_loopw [8] (fun x wr => ∃ i : Nat, i ≤ s.size ∧ x = .int .i64 i ∧ Aside0 (∀ j, j < i → smallB (byteAt s j) = true) ∧ Aside0 (wr = wv)) (fun x _ => s.size - (intOf x).toNat)
  case atStart => exact ⟨0, by omega, rfl, ⟨fun j h => by omega⟩, ⟨by first | trivial | rfl⟩⟩
  case round =>
    obtain ⟨i, hi, rfl, HN, hw⟩ := hrel
    obtain rfl := hw.out.symm
    by_cases hin : i < s.size
    · have g0 : (0 : Int) ≤ (i : Int) := by omega
      have g1 : (i : Int) < (s.size : Int) := by omega
      obtain ⟨x, hx⟩ : ∃ x, byteAt s i = x := ⟨_, rfl⟩
      have hxb := HCC.out i hin
      rw [hx] at hxb
      by_cases h1 : x < 97
      · have HE : Aside0 (nameB s = false) := ⟨name_no hin (by rw [hx]; exact small_no (by omega))⟩
        have n1 : decide ((x : Int) < 97) = true := by rw [decide_eq_true_eq]; omega
        clear hx h1
        go_wp2_with fail
        go_ret
        exact ⟨ret_bb HE.out.symm, HBv.out⟩
      · have n1 : decide ((x : Int) < 97) = false := by rw [decide_eq_false_iff_not]; omega
        by_cases h2 : 122 < x
        · have HE : Aside0 (nameB s = false) := ⟨name_no hin (by rw [hx]; exact small_no (by omega))⟩
          have n2 : decide ((122 : Int) < (x : Int)) = true := by rw [decide_eq_true_eq]; omega
          clear hx h1 h2
          go_wp2_with fail
          go_ret
          exact ⟨ret_bb HE.out.symm, HBv.out⟩
        · have n2 : decide ((122 : Int) < (x : Int)) = false := by rw [decide_eq_false_iff_not]; omega
          have HN2 : Aside0 (∀ j, j < i + 1 → smallB (byteAt s j) = true) := ⟨fun j hj => by
            by_cases e : j = i
            · subst e; rw [hx]; exact small_iff.2 (by omega)
            · exact HN.out j (by omega)⟩
          clear hx h1 h2
          go_wp2_with fail
          go_roundw
          case rel => exact ⟨i + 1, by omega, by go_num, HN2, ⟨by first | trivial | rfl⟩⟩
          case measure => simp [intOf]; omega
    · have HE : Aside0 (nameB s = (decide (1 ≤ s.size) && decide (s.size ≤ 8))) := ⟨name_yes fun j hj => HN.out j (by omega)⟩
      by_cases h1 : 1 ≤ s.size
      · obtain ⟨t1, t2, t3⟩ := name_ne h1
        by_cases h8 : s.size ≤ 8
        · rw [decide_eq_true h1, decide_eq_true h8] at HE
          have n2 : decide ((s.size : Int) ≤ 8) = true := by rw [decide_eq_true_eq]; omega
          go_wp2_with fail
          go_ret
          exact ⟨ret_bb HE.out.symm, HBv.out⟩
        · rw [decide_eq_true h1, decide_eq_false h8] at HE
          have n2 : decide ((s.size : Int) ≤ 8) = false := by rw [decide_eq_false_iff_not]; omega
          go_wp2_with fail
          go_ret
          exact ⟨ret_bb HE.out.symm, HBv.out⟩
      · rw [decide_eq_false h1] at HE
        obtain rfl := empty_list (show s.size = 0 by omega)
        go_wp2_with fail
        go_ret
        exact ⟨ret_bb HE.out.symm, HBv.out⟩
/-! ### ends -/
def endB (a : Ed) : Bool := if a.v.size = 0 then isB a.tm else nameB a.v && noT a.tm.k a.tm.t a.tm.x
theorem boxE (w : World) (v : ByteArray) (k : Int) (t x : ByteArray) : ∃ wb, wb = w.alloc (.cells #[.string v, .int .i64 k, .string t, .string x] 76) ∧ Aside0 (Below w.heap.size w wb) ∧ Aside0 (wb.heap[w.heap.size]? = some (.cells #[.string v, .int .i64 k, .string t, .string x] 76 (0, 0))) := ⟨_, rfl, ⟨below_alloc (Below.refl _ _) _⟩, ⟨heap_alloc_new _ _⟩⟩
theorem e_then {w w1 w2 : World} (h : Below w.heap.size w w1) (h2 : Below w1.heap.size w1 w2) : Below w.heap.size w w2 := h.trans (h2.mono h.size)
set_option maxRecDepth 100000 in
set_option maxHeartbeats 8000000 in
theorem isEnd_any_A (v : ByteArray) (k : Int) (t x : ByteArray) (hk : k ≠ 0) (hz : 0 < v.size) (hv : v.size ≤ 1000) (ht : t.size ≤ 1000) (hx : x.size ≤ 1000) (w : World) (hT : Tabs w) : Calls Tryd.prog 79 #[.agg #[.string v, .int .i64 k, .string t, .string x]] w fun e w' => e = .returned (.bool (endB ⟨v, ⟨k, t, x⟩⟩)) ∧ Below w.heap.size w w' := by
  obtain ⟨wb, hwb, HB, HN⟩ := boxE w v k t x
  have HHW : Aside0 (w.alloc (.cells #[.string v, .int .i64 k, .string t, .string x] 76) = wb) := ⟨hwb.symm⟩
  have CN := Aside0.mk (isVar_any v (by omega) wb)
  have HE : Aside0 (endB ⟨v, ⟨k, t, x⟩⟩ = (nameB v && false)) := ⟨by unfold endB; rw [if_neg (show ¬ v.size = 0 by omega)]; rw [show noT k t x = false from noT_A t x hk]⟩
  obtain ⟨t1, t2, t3⟩ := name_ne hz
  have t4 := list_ne hz
  have n1 : (k == 0) = false := by rw [beq_eq_false_iff_ne]; exact hk
  obtain ⟨b2, hb2⟩ : ∃ b, nameB v = b := ⟨_, rfl⟩
  rw [hb2] at CN HE
  clear hwb hT hb2 hz hk
  cases b2 with
  | true =>
    go_enter Tryd.func79, Tryd.ntmps79
    go_upto_region 1 with (fail)
    rw [HHW.out]
    have q0 := blk_cell HN.out 0; have q1 := blk_cell HN.out 1; have q2 := blk_cell HN.out 2; have q3 := blk_cell HN.out 3; simp at q0 q1 q2 q3
    go_wp2_with (go_at_call 108; (with_reducible refine CN.out.mono ?_); rintro e w1 ⟨rfl, hb⟩; have HB1 := Aside0.mk hb; clear hb; clear q0 q1 q2 q3; have q0 := blk_cell (blk_below HN.out HB1.out) 0; have q1 := blk_cell (blk_below HN.out HB1.out) 1; have q2 := blk_cell (blk_below HN.out HB1.out) 2; have q3 := blk_cell (blk_below HN.out HB1.out) 3; simp at q0 q1 q2 q3)
    go_ret
    exact ⟨ret_bb HE.out.symm, e_then HB.out HB1.out⟩
  | false =>
    go_enter Tryd.func79, Tryd.ntmps79
    go_upto_region 1 with (fail)
    rw [HHW.out]
    have q0 := blk_cell HN.out 0; have q1 := blk_cell HN.out 1; have q2 := blk_cell HN.out 2; have q3 := blk_cell HN.out 3; simp at q0 q1 q2 q3
    go_wp2_with (go_at_call 108; (with_reducible refine CN.out.mono ?_); rintro e w1 ⟨rfl, hb⟩; have HB1 := Aside0.mk hb; clear hb; clear q0 q1 q2 q3; have q0 := blk_cell (blk_below HN.out HB1.out) 0; have q1 := blk_cell (blk_below HN.out HB1.out) 1; have q2 := blk_cell (blk_below HN.out HB1.out) 2; have q3 := blk_cell (blk_below HN.out HB1.out) 3; simp at q0 q1 q2 q3)
    go_ret
    exact ⟨ret_bb HE.out.symm, e_then HB.out HB1.out⟩
set_option maxRecDepth 100000 in
set_option maxHeartbeats 8000000 in
theorem isEnd_any_B (v : ByteArray) (t x : ByteArray) (hk : 0 < t.size) (hz : 0 < v.size) (hv : v.size ≤ 1000) (ht : t.size ≤ 1000) (hx : x.size ≤ 1000) (w : World) (hT : Tabs w) : Calls Tryd.prog 79 #[.agg #[.string v, .int .i64 0, .string t, .string x]] w fun e w' => e = .returned (.bool (endB ⟨v, ⟨0, t, x⟩⟩)) ∧ Below w.heap.size w w' := by
  obtain ⟨wb, hwb, HB, HN⟩ := boxE w v 0 t x
  have HHW : Aside0 (w.alloc (.cells #[.string v, .int .i64 0, .string t, .string x] 76) = wb) := ⟨hwb.symm⟩
  have CN := Aside0.mk (isVar_any v (by omega) wb)
  have HE : Aside0 (endB ⟨v, ⟨0, t, x⟩⟩ = (nameB v && false)) := ⟨by unfold endB; rw [if_neg (show ¬ v.size = 0 by omega)]; rw [show noT 0 t x = false from noT_B 0 x hk]⟩
  obtain ⟨t1, t2, t3⟩ := name_ne hz
  have t4 := list_ne hz
  obtain ⟨n1, n2, n3⟩ := name_ne hk
  have n4 := list_ne hk
  obtain ⟨b2, hb2⟩ : ∃ b, nameB v = b := ⟨_, rfl⟩
  rw [hb2] at CN HE
  clear hwb hT hb2 hz hk
  cases b2 with
  | true =>
    go_enter Tryd.func79, Tryd.ntmps79
    go_upto_region 1 with (fail)
    rw [HHW.out]
    have q0 := blk_cell HN.out 0; have q1 := blk_cell HN.out 1; have q2 := blk_cell HN.out 2; have q3 := blk_cell HN.out 3; simp at q0 q1 q2 q3
    go_wp2_with (go_at_call 108; (with_reducible refine CN.out.mono ?_); rintro e w1 ⟨rfl, hb⟩; have HB1 := Aside0.mk hb; clear hb; clear q0 q1 q2 q3; have q0 := blk_cell (blk_below HN.out HB1.out) 0; have q1 := blk_cell (blk_below HN.out HB1.out) 1; have q2 := blk_cell (blk_below HN.out HB1.out) 2; have q3 := blk_cell (blk_below HN.out HB1.out) 3; simp at q0 q1 q2 q3)
    go_ret
    exact ⟨ret_bb HE.out.symm, e_then HB.out HB1.out⟩
  | false =>
    go_enter Tryd.func79, Tryd.ntmps79
    go_upto_region 1 with (fail)
    rw [HHW.out]
    have q0 := blk_cell HN.out 0; have q1 := blk_cell HN.out 1; have q2 := blk_cell HN.out 2; have q3 := blk_cell HN.out 3; simp at q0 q1 q2 q3
    go_wp2_with (go_at_call 108; (with_reducible refine CN.out.mono ?_); rintro e w1 ⟨rfl, hb⟩; have HB1 := Aside0.mk hb; clear hb; clear q0 q1 q2 q3; have q0 := blk_cell (blk_below HN.out HB1.out) 0; have q1 := blk_cell (blk_below HN.out HB1.out) 1; have q2 := blk_cell (blk_below HN.out HB1.out) 2; have q3 := blk_cell (blk_below HN.out HB1.out) 3; simp at q0 q1 q2 q3)
    go_ret
    exact ⟨ret_bb HE.out.symm, e_then HB.out HB1.out⟩
set_option maxRecDepth 100000 in
set_option maxHeartbeats 8000000 in
theorem isEnd_any_C (v : ByteArray) (x : ByteArray) (hk : 0 < x.size) (hz : 0 < v.size) (hv : v.size ≤ 1000) (ht : (⟨#[]⟩ : ByteArray).size ≤ 1000) (hx : x.size ≤ 1000) (w : World) (hT : Tabs w) : Calls Tryd.prog 79 #[.agg #[.string v, .int .i64 0, .string ⟨#[]⟩, .string x]] w fun e w' => e = .returned (.bool (endB ⟨v, ⟨0, ⟨#[]⟩, x⟩⟩)) ∧ Below w.heap.size w w' := by
  obtain ⟨wb, hwb, HB, HN⟩ := boxE w v 0 ⟨#[]⟩ x
  have HHW : Aside0 (w.alloc (.cells #[.string v, .int .i64 0, .string ⟨#[]⟩, .string x] 76) = wb) := ⟨hwb.symm⟩
  have CN := Aside0.mk (isVar_any v (by omega) wb)
  have HE : Aside0 (endB ⟨v, ⟨0, ⟨#[]⟩, x⟩⟩ = (nameB v && false)) := ⟨by unfold endB; rw [if_neg (show ¬ v.size = 0 by omega)]; rw [show noT 0 ⟨#[]⟩ x = false from noT_C 0 ⟨#[]⟩ hk]⟩
  obtain ⟨t1, t2, t3⟩ := name_ne hz
  have t4 := list_ne hz
  obtain ⟨n1, n2, n3⟩ := name_ne hk
  have n4 := list_ne hk
  obtain ⟨b2, hb2⟩ : ∃ b, nameB v = b := ⟨_, rfl⟩
  rw [hb2] at CN HE
  clear hwb hT hb2 hz hk
  cases b2 with
  | true =>
    go_enter Tryd.func79, Tryd.ntmps79
    go_upto_region 1 with (fail)
    rw [HHW.out]
    have q0 := blk_cell HN.out 0; have q1 := blk_cell HN.out 1; have q2 := blk_cell HN.out 2; have q3 := blk_cell HN.out 3; simp at q0 q1 q2 q3
    go_wp2_with (go_at_call 108; (with_reducible refine CN.out.mono ?_); rintro e w1 ⟨rfl, hb⟩; have HB1 := Aside0.mk hb; clear hb; clear q0 q1 q2 q3; have q0 := blk_cell (blk_below HN.out HB1.out) 0; have q1 := blk_cell (blk_below HN.out HB1.out) 1; have q2 := blk_cell (blk_below HN.out HB1.out) 2; have q3 := blk_cell (blk_below HN.out HB1.out) 3; simp at q0 q1 q2 q3)
    go_ret
    exact ⟨ret_bb HE.out.symm, e_then HB.out HB1.out⟩
  | false =>
    go_enter Tryd.func79, Tryd.ntmps79
    go_upto_region 1 with (fail)
    rw [HHW.out]
    have q0 := blk_cell HN.out 0; have q1 := blk_cell HN.out 1; have q2 := blk_cell HN.out 2; have q3 := blk_cell HN.out 3; simp at q0 q1 q2 q3
    go_wp2_with (go_at_call 108; (with_reducible refine CN.out.mono ?_); rintro e w1 ⟨rfl, hb⟩; have HB1 := Aside0.mk hb; clear hb; clear q0 q1 q2 q3; have q0 := blk_cell (blk_below HN.out HB1.out) 0; have q1 := blk_cell (blk_below HN.out HB1.out) 1; have q2 := blk_cell (blk_below HN.out HB1.out) 2; have q3 := blk_cell (blk_below HN.out HB1.out) 3; simp at q0 q1 q2 q3)
    go_ret
    exact ⟨ret_bb HE.out.symm, e_then HB.out HB1.out⟩
set_option maxRecDepth 100000 in
set_option maxHeartbeats 8000000 in
theorem isEnd_any_D (v : ByteArray)   (hz : 0 < v.size) (hv : v.size ≤ 1000) (ht : (⟨#[]⟩ : ByteArray).size ≤ 1000) (hx : (⟨#[]⟩ : ByteArray).size ≤ 1000) (w : World) (hT : Tabs w) : Calls Tryd.prog 79 #[.agg #[.string v, .int .i64 0, .string ⟨#[]⟩, .string ⟨#[]⟩]] w fun e w' => e = .returned (.bool (endB ⟨v, ⟨0, ⟨#[]⟩, ⟨#[]⟩⟩⟩)) ∧ Below w.heap.size w w' := by
  obtain ⟨wb, hwb, HB, HN⟩ := boxE w v 0 ⟨#[]⟩ ⟨#[]⟩
  have HHW : Aside0 (w.alloc (.cells #[.string v, .int .i64 0, .string ⟨#[]⟩, .string ⟨#[]⟩] 76) = wb) := ⟨hwb.symm⟩
  have CN := Aside0.mk (isVar_any v (by omega) wb)
  have HE : Aside0 (endB ⟨v, ⟨0, ⟨#[]⟩, ⟨#[]⟩⟩⟩ = (nameB v && true)) := ⟨by unfold endB; rw [if_neg (show ¬ v.size = 0 by omega)]; rw [show noT 0 ⟨#[]⟩ ⟨#[]⟩ = true from noT_D]⟩
  obtain ⟨t1, t2, t3⟩ := name_ne hz
  have t4 := list_ne hz
  obtain ⟨b2, hb2⟩ : ∃ b, nameB v = b := ⟨_, rfl⟩
  rw [hb2] at CN HE
  clear hwb hT hb2 hz 
  cases b2 with
  | true =>
    go_enter Tryd.func79, Tryd.ntmps79
    go_upto_region 1 with (fail)
    rw [HHW.out]
    have q0 := blk_cell HN.out 0; have q1 := blk_cell HN.out 1; have q2 := blk_cell HN.out 2; have q3 := blk_cell HN.out 3; simp at q0 q1 q2 q3
    go_wp2_with (go_at_call 108; (with_reducible refine CN.out.mono ?_); rintro e w1 ⟨rfl, hb⟩; have HB1 := Aside0.mk hb; clear hb; clear q0 q1 q2 q3; have q0 := blk_cell (blk_below HN.out HB1.out) 0; have q1 := blk_cell (blk_below HN.out HB1.out) 1; have q2 := blk_cell (blk_below HN.out HB1.out) 2; have q3 := blk_cell (blk_below HN.out HB1.out) 3; simp at q0 q1 q2 q3)
    go_ret
    exact ⟨ret_bb HE.out.symm, e_then HB.out HB1.out⟩
  | false =>
    go_enter Tryd.func79, Tryd.ntmps79
    go_upto_region 1 with (fail)
    rw [HHW.out]
    have q0 := blk_cell HN.out 0; have q1 := blk_cell HN.out 1; have q2 := blk_cell HN.out 2; have q3 := blk_cell HN.out 3; simp at q0 q1 q2 q3
    go_wp2_with (go_at_call 108; (with_reducible refine CN.out.mono ?_); rintro e w1 ⟨rfl, hb⟩; have HB1 := Aside0.mk hb; clear hb; clear q0 q1 q2 q3; have q0 := blk_cell (blk_below HN.out HB1.out) 0; have q1 := blk_cell (blk_below HN.out HB1.out) 1; have q2 := blk_cell (blk_below HN.out HB1.out) 2; have q3 := blk_cell (blk_below HN.out HB1.out) 3; simp at q0 q1 q2 q3)
    go_ret
    exact ⟨ret_bb HE.out.symm, e_then HB.out HB1.out⟩
set_option maxRecDepth 100000 in
set_option maxHeartbeats 8000000 in
theorem isEnd_any (a : Ed) (hv : a.v.size ≤ 1000) (ht : a.tm.t.size ≤ 1000) (hx : a.tm.x.size ≤ 1000) (w : World) (hT : Tabs w) : Calls Tryd.prog 79 #[.agg #[.string a.v, .int .i64 a.tm.k, .string a.tm.t, .string a.tm.x]] w fun e w' => e = .returned (.bool (endB a)) ∧ Below w.heap.size w w' := by
  obtain ⟨v, ⟨k, t, x⟩⟩ := a
  simp only at hv ht hx ⊢
  by_cases hz : 0 < v.size
  · by_cases hk : k = 0
    · subst hk
      by_cases h2 : 0 < t.size
      · exact isEnd_any_B v t x h2 hz hv ht hx w hT
      · obtain rfl := empty_list (show t.size = 0 by omega)
        by_cases h3 : 0 < x.size
        · exact isEnd_any_C v x h3 hz hv ht hx w hT
        · obtain rfl := empty_list (show x.size = 0 by omega)
          exact isEnd_any_D v hz hv ht hx w hT
    · exact isEnd_any_A v k t x hk hz hv ht hx w hT
  · obtain rfl := empty_list (show v.size = 0 by omega)
    obtain ⟨wb, hwb, HB, HN⟩ := boxE w ⟨#[]⟩ k t x
    have HHW : Aside0 (w.alloc (.cells #[.string ⟨#[]⟩, .int .i64 k, .string t, .string x] 76) = wb) := ⟨hwb.symm⟩
    have CI : Aside0 (Calls Tryd.prog 107 #[.agg #[.int .i64 k, .string t, .string x]] wb fun e w' => e = .returned (.bool (isB ⟨k, t, x⟩)) ∧ Below wb.heap.size wb w') := ⟨is_any ⟨k, t, x⟩ wb ht hx (hT.below HB.out)⟩
    obtain ⟨b1, hb1⟩ : ∃ b, isB ⟨k, t, x⟩ = b := ⟨_, rfl⟩
    have HE : Aside0 (endB ⟨⟨#[]⟩, ⟨k, t, x⟩⟩ = b1) := ⟨by rw [← hb1]; rfl⟩
    rw [hb1] at CI
    clear hwb hT hb1 hz
    go_enter Tryd.func79, Tryd.ntmps79
    go_upto_region 1 with (fail)
    rw [HHW.out]
    have q0 := blk_cell HN.out 0; have q1 := blk_cell HN.out 1; have q2 := blk_cell HN.out 2; have q3 := blk_cell HN.out 3; simp at q0 q1 q2 q3
    go_wp2_with (go_at_call 107; (with_reducible refine CI.out.mono ?_); rintro e w1 ⟨rfl, hb⟩; have HB1 := Aside0.mk hb; clear hb)
    go_ret
    exact ⟨ret_bb HE.out.symm, e_then HB.out HB1.out⟩
end Go.Proofs.YtbaegfjoionojaaDoor.Qy
