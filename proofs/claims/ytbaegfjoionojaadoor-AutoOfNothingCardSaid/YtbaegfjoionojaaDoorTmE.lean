/- The walk of term.Is. -/
import Derived.Test.YtbaegfjoionojaaDoorTmD
set_option linter.unusedSimpArgs false
set_option linter.unusedVariables false
namespace Go.Proofs.YtbaegfjoionojaaDoor.Tm
open Go Go.RowKit Go.Shelf Go.Proofs.YtbaegfjoionojaaDoorW.PrintWords

/-- A term. -/
structure Trm where
  k : Int
  t : ByteArray
  x : ByteArray
deriving DecidableEq
def Trm.val (a : Trm) : Value := .agg #[.int .i64 a.k, .string a.t, .string a.x]
def okB (t : ByteArray) : Bool := decide (t.size ≤ 30) && validB t
/-- May a term be? -/
def isB (a : Trm) : Bool :=
  if a.k = 1 then iriB a.t && decide (a.x.size = 0) else if a.k = 2 then labelB a.t && decide (a.x.size = 0) else if a.k = 3 then okB a.t && decide (a.x.size = 0)
  else if a.k = 4 then okB a.t && langB a.x else if a.k = 5 then okB a.t && iriB a.x else false
/-- A term in a block of its own. -/
theorem boxT (w : World) (k : Int) (t x : ByteArray) : ∃ wb, wb = w.alloc (.cells #[.int .i64 k, .string t, .string x] 74) ∧ Aside0 (Below w.heap.size w wb) := ⟨_, rfl, ⟨below_alloc (Below.refl _ _) _⟩⟩
def AnyB (fn : Nat) (s : ByteArray) (b : Bool) : Prop := ∀ W, Tabs W → Calls Tryd.prog fn #[.string s] W fun e w' => e = .returned (.bool b) ∧ Below W.heap.size W w'
def BoxedT (w : World) (b : Nat) (k : Int) (t x : ByteArray) : Prop := w.cell? ⟨b, 0, none⟩ = some (.int .i64 k) ∧ w.cell? ⟨b, 1, none⟩ = some (.string t) ∧ w.cell? ⟨b, 2, none⟩ = some (.string x)
theorem BoxedT.below {w w1 : World} {b : Nat} {k : Int} {t x : ByteArray} (h : BoxedT w b k t x) (hb : Below w.heap.size w w1) : BoxedT w1 b k t x :=
  ⟨pw_cell_below hb h.1, pw_cell_below hb h.2.1, pw_cell_below hb h.2.2⟩
theorem BoxedT.new (w : World) (k : Int) (t x : ByteArray) (ty : TypeId) : BoxedT (w.alloc (.cells #[.int .i64 k, .string t, .string x] ty)) w.heap.size k t x := ⟨by simp, by simp, by simp⟩
set_option maxRecDepth 100000 in
set_option maxHeartbeats 4000000 in
theorem is_1 (t x : ByteArray) (w : World) (ht : t.size ≤ 1000) (hx : x.size ≤ 1000) (hT : Tabs w) (b : Bool) (hb : AnyB 117 t b) :
    Calls Tryd.prog 107 #[.agg #[.int .i64 1, .string t, .string x]] w fun e w' => e = .returned (.bool (b && decide (x.size = 0))) ∧ Below w.heap.size w w' := by
  have CV := Aside0.mk (fun W (h : Tabs W) => valid_any t W (by omega) h)
  have CB : Aside0 (∀ W, Tabs W → Calls Tryd.prog 117 #[.string t] W fun e w' => e = .returned (.bool b) ∧ Below W.heap.size W w') := ⟨hb⟩
  obtain ⟨wb, hwb, HB0⟩ := boxT w 1 t x
  have HT0 := Aside0.mk (hT.below HB0.out)
  have HX0 : Aside0 (BoxedT wb w.heap.size 1 t x) := ⟨by rw [hwb]; exact BoxedT.new w 1 t x _⟩
  have hsz : (t.size : Int) ≤ 1000 := by omega
  have HOK : Aside0 (okB t = (decide (t.size ≤ 30) && validB t)) := ⟨rfl⟩
  obtain ⟨a, ha⟩ : ∃ a, a = validB t := ⟨_, rfl⟩
  rw [← ha] at CV HOK
  rw [hwb] at HB0 HT0 HX0
  clear ha hwb hT hb
  by_cases h30 : t.size ≤ 30
  · have g30 : (t.size : Int) ≤ 30 := by omega
    have HOK := Aside0.mk (HOK.out.trans (by rw [decide_eq_true h30, Bool.true_and]))
    clear h30
    cases b with
    | false =>
      go_enter Tryd.func107, Tryd.ntmps107
      go_wp2_with (first
      | (go_at_call 111; (with_reducible refine (CV.out _ HT0.out).mono ?_); rintro e w1 ⟨rfl, hb⟩; have HB1 := Aside0.mk (below_then HB0.out HB0.out.size hb); have HT1 := Aside0.mk (HT0.out.below hb); have HX1 := Aside0.mk (HX0.out.below hb); obtain ⟨y0, y1, y2⟩ := HX1.out; clear hb)
      | (go_at_call 117; (with_reducible refine (CB.out _ HT1.out).mono ?_); rintro e w2 ⟨rfl, hb⟩; have HB2 := Aside0.mk (below_then HB1.out HB1.out.size hb); obtain ⟨z0, z1, z2⟩ := HX1.out.below hb; clear hb))
      go_ret
      exact ⟨ret_b (by first | rfl | (simp; done)), HB2.out⟩
    | true =>
      by_cases h0 : 0 < x.size
      · have e1 := string_ne h0
        have HS := Aside0.mk (show decide (x.size = 0) = false from decide_eq_false (by omega))
        clear h0
        go_enter Tryd.func107, Tryd.ntmps107
        go_wp2_with (first
      | (go_at_call 111; (with_reducible refine (CV.out _ HT0.out).mono ?_); rintro e w1 ⟨rfl, hb⟩; have HB1 := Aside0.mk (below_then HB0.out HB0.out.size hb); have HT1 := Aside0.mk (HT0.out.below hb); have HX1 := Aside0.mk (HX0.out.below hb); obtain ⟨y0, y1, y2⟩ := HX1.out; clear hb)
      | (go_at_call 117; (with_reducible refine (CB.out _ HT1.out).mono ?_); rintro e w2 ⟨rfl, hb⟩; have HB2 := Aside0.mk (below_then HB1.out HB1.out.size hb); obtain ⟨z0, z1, z2⟩ := HX1.out.below hb; clear hb))
        go_ret
        exact ⟨ret_b (by rw [HS.out]; first | rfl | (simp; done)), HB2.out⟩
      · obtain rfl := empty_list (s := x) (by omega)
        clear h0
        go_enter Tryd.func107, Tryd.ntmps107
        go_wp2_with (first
      | (go_at_call 111; (with_reducible refine (CV.out _ HT0.out).mono ?_); rintro e w1 ⟨rfl, hb⟩; have HB1 := Aside0.mk (below_then HB0.out HB0.out.size hb); have HT1 := Aside0.mk (HT0.out.below hb); have HX1 := Aside0.mk (HX0.out.below hb); obtain ⟨y0, y1, y2⟩ := HX1.out; clear hb)
      | (go_at_call 117; (with_reducible refine (CB.out _ HT1.out).mono ?_); rintro e w2 ⟨rfl, hb⟩; have HB2 := Aside0.mk (below_then HB1.out HB1.out.size hb); obtain ⟨z0, z1, z2⟩ := HX1.out.below hb; clear hb))
        go_ret
        exact ⟨ret_b (by first | rfl | (simp; done)), HB2.out⟩
  · have g30 : (30 : Int) < (t.size : Int) := by omega
    have HOK := Aside0.mk (HOK.out.trans (by rw [decide_eq_false h30, Bool.false_and]))
    clear h30
    cases b with
    | false =>
      go_enter Tryd.func107, Tryd.ntmps107
      go_wp2_with (first
      | (go_at_call 117; (with_reducible refine (CB.out _ HT0.out).mono ?_); rintro e w2 ⟨rfl, hb⟩; have HB2 := Aside0.mk (below_then HB0.out HB0.out.size hb); obtain ⟨z0, z1, z2⟩ := HX0.out.below hb; clear hb))
      go_ret
      exact ⟨ret_b (by first | rfl | (simp; done)), HB2.out⟩
    | true =>
      by_cases h0 : 0 < x.size
      · have e1 := string_ne h0
        have HS := Aside0.mk (show decide (x.size = 0) = false from decide_eq_false (by omega))
        clear h0
        go_enter Tryd.func107, Tryd.ntmps107
        go_wp2_with (first
      | (go_at_call 117; (with_reducible refine (CB.out _ HT0.out).mono ?_); rintro e w2 ⟨rfl, hb⟩; have HB2 := Aside0.mk (below_then HB0.out HB0.out.size hb); obtain ⟨z0, z1, z2⟩ := HX0.out.below hb; clear hb))
        go_ret
        exact ⟨ret_b (by rw [HS.out]; first | rfl | (simp; done)), HB2.out⟩
      · obtain rfl := empty_list (s := x) (by omega)
        clear h0
        go_enter Tryd.func107, Tryd.ntmps107
        go_wp2_with (first
      | (go_at_call 117; (with_reducible refine (CB.out _ HT0.out).mono ?_); rintro e w2 ⟨rfl, hb⟩; have HB2 := Aside0.mk (below_then HB0.out HB0.out.size hb); obtain ⟨z0, z1, z2⟩ := HX0.out.below hb; clear hb))
        go_ret
        exact ⟨ret_b (by first | rfl | (simp; done)), HB2.out⟩
set_option maxRecDepth 100000 in
set_option maxHeartbeats 4000000 in
theorem is_2 (t x : ByteArray) (w : World) (ht : t.size ≤ 1000) (hx : x.size ≤ 1000) (hT : Tabs w) (b : Bool) (hb : AnyB 131 t b) :
    Calls Tryd.prog 107 #[.agg #[.int .i64 2, .string t, .string x]] w fun e w' => e = .returned (.bool (b && decide (x.size = 0))) ∧ Below w.heap.size w w' := by
  have CV := Aside0.mk (fun W (h : Tabs W) => valid_any t W (by omega) h)
  have CB : Aside0 (∀ W, Tabs W → Calls Tryd.prog 131 #[.string t] W fun e w' => e = .returned (.bool b) ∧ Below W.heap.size W w') := ⟨hb⟩
  obtain ⟨wb, hwb, HB0⟩ := boxT w 2 t x
  have HT0 := Aside0.mk (hT.below HB0.out)
  have HX0 : Aside0 (BoxedT wb w.heap.size 2 t x) := ⟨by rw [hwb]; exact BoxedT.new w 2 t x _⟩
  have hsz : (t.size : Int) ≤ 1000 := by omega
  have HOK : Aside0 (okB t = (decide (t.size ≤ 30) && validB t)) := ⟨rfl⟩
  obtain ⟨a, ha⟩ : ∃ a, a = validB t := ⟨_, rfl⟩
  rw [← ha] at CV HOK
  rw [hwb] at HB0 HT0 HX0
  clear ha hwb hT hb
  by_cases h30 : t.size ≤ 30
  · have g30 : (t.size : Int) ≤ 30 := by omega
    have HOK := Aside0.mk (HOK.out.trans (by rw [decide_eq_true h30, Bool.true_and]))
    clear h30
    cases b with
    | false =>
      go_enter Tryd.func107, Tryd.ntmps107
      go_wp2_with (first
      | (go_at_call 111; (with_reducible refine (CV.out _ HT0.out).mono ?_); rintro e w1 ⟨rfl, hb⟩; have HB1 := Aside0.mk (below_then HB0.out HB0.out.size hb); have HT1 := Aside0.mk (HT0.out.below hb); have HX1 := Aside0.mk (HX0.out.below hb); obtain ⟨y0, y1, y2⟩ := HX1.out; clear hb)
      | (go_at_call 131; (with_reducible refine (CB.out _ HT1.out).mono ?_); rintro e w2 ⟨rfl, hb⟩; have HB2 := Aside0.mk (below_then HB1.out HB1.out.size hb); obtain ⟨z0, z1, z2⟩ := HX1.out.below hb; clear hb))
      go_ret
      exact ⟨ret_b (by first | rfl | (simp; done)), HB2.out⟩
    | true =>
      by_cases h0 : 0 < x.size
      · have e1 := string_ne h0
        have HS := Aside0.mk (show decide (x.size = 0) = false from decide_eq_false (by omega))
        clear h0
        go_enter Tryd.func107, Tryd.ntmps107
        go_wp2_with (first
      | (go_at_call 111; (with_reducible refine (CV.out _ HT0.out).mono ?_); rintro e w1 ⟨rfl, hb⟩; have HB1 := Aside0.mk (below_then HB0.out HB0.out.size hb); have HT1 := Aside0.mk (HT0.out.below hb); have HX1 := Aside0.mk (HX0.out.below hb); obtain ⟨y0, y1, y2⟩ := HX1.out; clear hb)
      | (go_at_call 131; (with_reducible refine (CB.out _ HT1.out).mono ?_); rintro e w2 ⟨rfl, hb⟩; have HB2 := Aside0.mk (below_then HB1.out HB1.out.size hb); obtain ⟨z0, z1, z2⟩ := HX1.out.below hb; clear hb))
        go_ret
        exact ⟨ret_b (by rw [HS.out]; first | rfl | (simp; done)), HB2.out⟩
      · obtain rfl := empty_list (s := x) (by omega)
        clear h0
        go_enter Tryd.func107, Tryd.ntmps107
        go_wp2_with (first
      | (go_at_call 111; (with_reducible refine (CV.out _ HT0.out).mono ?_); rintro e w1 ⟨rfl, hb⟩; have HB1 := Aside0.mk (below_then HB0.out HB0.out.size hb); have HT1 := Aside0.mk (HT0.out.below hb); have HX1 := Aside0.mk (HX0.out.below hb); obtain ⟨y0, y1, y2⟩ := HX1.out; clear hb)
      | (go_at_call 131; (with_reducible refine (CB.out _ HT1.out).mono ?_); rintro e w2 ⟨rfl, hb⟩; have HB2 := Aside0.mk (below_then HB1.out HB1.out.size hb); obtain ⟨z0, z1, z2⟩ := HX1.out.below hb; clear hb))
        go_ret
        exact ⟨ret_b (by first | rfl | (simp; done)), HB2.out⟩
  · have g30 : (30 : Int) < (t.size : Int) := by omega
    have HOK := Aside0.mk (HOK.out.trans (by rw [decide_eq_false h30, Bool.false_and]))
    clear h30
    cases b with
    | false =>
      go_enter Tryd.func107, Tryd.ntmps107
      go_wp2_with (first
      | (go_at_call 131; (with_reducible refine (CB.out _ HT0.out).mono ?_); rintro e w2 ⟨rfl, hb⟩; have HB2 := Aside0.mk (below_then HB0.out HB0.out.size hb); obtain ⟨z0, z1, z2⟩ := HX0.out.below hb; clear hb))
      go_ret
      exact ⟨ret_b (by first | rfl | (simp; done)), HB2.out⟩
    | true =>
      by_cases h0 : 0 < x.size
      · have e1 := string_ne h0
        have HS := Aside0.mk (show decide (x.size = 0) = false from decide_eq_false (by omega))
        clear h0
        go_enter Tryd.func107, Tryd.ntmps107
        go_wp2_with (first
      | (go_at_call 131; (with_reducible refine (CB.out _ HT0.out).mono ?_); rintro e w2 ⟨rfl, hb⟩; have HB2 := Aside0.mk (below_then HB0.out HB0.out.size hb); obtain ⟨z0, z1, z2⟩ := HX0.out.below hb; clear hb))
        go_ret
        exact ⟨ret_b (by rw [HS.out]; first | rfl | (simp; done)), HB2.out⟩
      · obtain rfl := empty_list (s := x) (by omega)
        clear h0
        go_enter Tryd.func107, Tryd.ntmps107
        go_wp2_with (first
      | (go_at_call 131; (with_reducible refine (CB.out _ HT0.out).mono ?_); rintro e w2 ⟨rfl, hb⟩; have HB2 := Aside0.mk (below_then HB0.out HB0.out.size hb); obtain ⟨z0, z1, z2⟩ := HX0.out.below hb; clear hb))
        go_ret
        exact ⟨ret_b (by first | rfl | (simp; done)), HB2.out⟩
set_option maxRecDepth 100000 in
set_option maxHeartbeats 4000000 in
theorem is_3 (t x : ByteArray) (w : World) (ht : t.size ≤ 1000) (hx : x.size ≤ 1000) (hT : Tabs w) :
    Calls Tryd.prog 107 #[.agg #[.int .i64 3, .string t, .string x]] w fun e w' => e = .returned (.bool (okB t && decide (x.size = 0))) ∧ Below w.heap.size w w' := by
  have CV := Aside0.mk (fun W (h : Tabs W) => valid_any t W (by omega) h)
  obtain ⟨wb, hwb, HB0⟩ := boxT w 3 t x
  have HT0 := Aside0.mk (hT.below HB0.out)
  have HX0 : Aside0 (BoxedT wb w.heap.size 3 t x) := ⟨by rw [hwb]; exact BoxedT.new w 3 t x _⟩
  have hsz : (t.size : Int) ≤ 1000 := by omega
  have HOK : Aside0 (okB t = (decide (t.size ≤ 30) && validB t)) := ⟨rfl⟩
  obtain ⟨a, ha⟩ : ∃ a, a = validB t := ⟨_, rfl⟩
  rw [← ha] at CV HOK
  rw [hwb] at HB0 HT0 HX0
  clear ha hwb hT
  by_cases h30 : t.size ≤ 30
  · have g30 : (t.size : Int) ≤ 30 := by omega
    have HOK := Aside0.mk (HOK.out.trans (by rw [decide_eq_true h30, Bool.true_and]))
    clear h30
    cases a with
    | false =>
      go_enter Tryd.func107, Tryd.ntmps107
      go_wp2_with (first
      | (go_at_call 111; (with_reducible refine (CV.out _ HT0.out).mono ?_); rintro e w1 ⟨rfl, hb⟩; have HB1 := Aside0.mk (below_then HB0.out HB0.out.size hb); have HT1 := Aside0.mk (HT0.out.below hb); have HX1 := Aside0.mk (HX0.out.below hb); obtain ⟨y0, y1, y2⟩ := HX1.out; clear hb))
      go_ret
      exact ⟨ret_b (by rw [HOK.out]; first | rfl | (simp; done)), HB1.out⟩
    | true =>
      by_cases h0 : 0 < x.size
      · have e1 := string_ne h0
        have HS := Aside0.mk (show decide (x.size = 0) = false from decide_eq_false (by omega))
        clear h0
        go_enter Tryd.func107, Tryd.ntmps107
        go_wp2_with (first
      | (go_at_call 111; (with_reducible refine (CV.out _ HT0.out).mono ?_); rintro e w1 ⟨rfl, hb⟩; have HB1 := Aside0.mk (below_then HB0.out HB0.out.size hb); have HT1 := Aside0.mk (HT0.out.below hb); have HX1 := Aside0.mk (HX0.out.below hb); obtain ⟨y0, y1, y2⟩ := HX1.out; clear hb))
        go_ret
        exact ⟨ret_b (by rw [HS.out]; first | rfl | (simp; done)), HB1.out⟩
      · obtain rfl := empty_list (s := x) (by omega)
        clear h0
        go_enter Tryd.func107, Tryd.ntmps107
        go_wp2_with (first
      | (go_at_call 111; (with_reducible refine (CV.out _ HT0.out).mono ?_); rintro e w1 ⟨rfl, hb⟩; have HB1 := Aside0.mk (below_then HB0.out HB0.out.size hb); have HT1 := Aside0.mk (HT0.out.below hb); have HX1 := Aside0.mk (HX0.out.below hb); obtain ⟨y0, y1, y2⟩ := HX1.out; clear hb))
        go_ret
        exact ⟨ret_b (by rw [HOK.out]; first | rfl | (simp; done)), HB1.out⟩
  · have g30 : (30 : Int) < (t.size : Int) := by omega
    have HOK := Aside0.mk (HOK.out.trans (by rw [decide_eq_false h30, Bool.false_and]))
    clear h30
    go_enter Tryd.func107, Tryd.ntmps107
    go_wp2_with fail
    go_ret
    exact ⟨ret_b (by rw [HOK.out]; first | rfl | (simp; done)), HB0.out⟩
set_option maxRecDepth 100000 in
set_option maxHeartbeats 4000000 in
theorem is_4 (t x : ByteArray) (w : World) (ht : t.size ≤ 1000) (hx : x.size ≤ 1000) (hT : Tabs w) (b : Bool) (hb : AnyB 132 x b) :
    Calls Tryd.prog 107 #[.agg #[.int .i64 4, .string t, .string x]] w fun e w' => e = .returned (.bool (okB t && b)) ∧ Below w.heap.size w w' := by
  have CV := Aside0.mk (fun W (h : Tabs W) => valid_any t W (by omega) h)
  have CB : Aside0 (∀ W, Tabs W → Calls Tryd.prog 132 #[.string x] W fun e w' => e = .returned (.bool b) ∧ Below W.heap.size W w') := ⟨hb⟩
  obtain ⟨wb, hwb, HB0⟩ := boxT w 4 t x
  have HT0 := Aside0.mk (hT.below HB0.out)
  have HX0 : Aside0 (BoxedT wb w.heap.size 4 t x) := ⟨by rw [hwb]; exact BoxedT.new w 4 t x _⟩
  have hsz : (t.size : Int) ≤ 1000 := by omega
  have HOK : Aside0 (okB t = (decide (t.size ≤ 30) && validB t)) := ⟨rfl⟩
  obtain ⟨a, ha⟩ : ∃ a, a = validB t := ⟨_, rfl⟩
  rw [← ha] at CV HOK
  rw [hwb] at HB0 HT0 HX0
  clear ha hwb hT hb
  by_cases h30 : t.size ≤ 30
  · have g30 : (t.size : Int) ≤ 30 := by omega
    have HOK := Aside0.mk (HOK.out.trans (by rw [decide_eq_true h30, Bool.true_and]))
    clear h30
    cases a with
    | false =>
      go_enter Tryd.func107, Tryd.ntmps107
      go_wp2_with (first
      | (go_at_call 111; (with_reducible refine (CV.out _ HT0.out).mono ?_); rintro e w1 ⟨rfl, hb⟩; have HB1 := Aside0.mk (below_then HB0.out HB0.out.size hb); have HT1 := Aside0.mk (HT0.out.below hb); have HX1 := Aside0.mk (HX0.out.below hb); obtain ⟨y0, y1, y2⟩ := HX1.out; clear hb))
      go_ret
      exact ⟨ret_b (by rw [HOK.out]; first | rfl | (simp; done)), HB1.out⟩
    | true =>
      go_enter Tryd.func107, Tryd.ntmps107
      go_wp2_with (first
      | (go_at_call 111; (with_reducible refine (CV.out _ HT0.out).mono ?_); rintro e w1 ⟨rfl, hb⟩; have HB1 := Aside0.mk (below_then HB0.out HB0.out.size hb); have HT1 := Aside0.mk (HT0.out.below hb); have HX1 := Aside0.mk (HX0.out.below hb); obtain ⟨y0, y1, y2⟩ := HX1.out; clear hb)
      | (go_at_call 132; (with_reducible refine (CB.out _ HT1.out).mono ?_); rintro e w2 ⟨rfl, hb⟩; have HB2 := Aside0.mk (below_then HB1.out HB1.out.size hb); obtain ⟨z0, z1, z2⟩ := HX1.out.below hb; clear hb))
      go_ret
      exact ⟨ret_b (by rw [HOK.out]; first | rfl | (simp; done)), HB2.out⟩
  · have g30 : (30 : Int) < (t.size : Int) := by omega
    have HOK := Aside0.mk (HOK.out.trans (by rw [decide_eq_false h30, Bool.false_and]))
    clear h30
    go_enter Tryd.func107, Tryd.ntmps107
    go_wp2_with fail
    go_ret
    exact ⟨ret_b (by rw [HOK.out]; first | rfl | (simp; done)), HB0.out⟩
set_option maxRecDepth 100000 in
set_option maxHeartbeats 4000000 in
theorem is_5 (t x : ByteArray) (w : World) (ht : t.size ≤ 1000) (hx : x.size ≤ 1000) (hT : Tabs w) (b : Bool) (hb : AnyB 117 x b) :
    Calls Tryd.prog 107 #[.agg #[.int .i64 5, .string t, .string x]] w fun e w' => e = .returned (.bool (okB t && b)) ∧ Below w.heap.size w w' := by
  have CV := Aside0.mk (fun W (h : Tabs W) => valid_any t W (by omega) h)
  have CB : Aside0 (∀ W, Tabs W → Calls Tryd.prog 117 #[.string x] W fun e w' => e = .returned (.bool b) ∧ Below W.heap.size W w') := ⟨hb⟩
  obtain ⟨wb, hwb, HB0⟩ := boxT w 5 t x
  have HT0 := Aside0.mk (hT.below HB0.out)
  have HX0 : Aside0 (BoxedT wb w.heap.size 5 t x) := ⟨by rw [hwb]; exact BoxedT.new w 5 t x _⟩
  have hsz : (t.size : Int) ≤ 1000 := by omega
  have HOK : Aside0 (okB t = (decide (t.size ≤ 30) && validB t)) := ⟨rfl⟩
  obtain ⟨a, ha⟩ : ∃ a, a = validB t := ⟨_, rfl⟩
  rw [← ha] at CV HOK
  rw [hwb] at HB0 HT0 HX0
  clear ha hwb hT hb
  by_cases h30 : t.size ≤ 30
  · have g30 : (t.size : Int) ≤ 30 := by omega
    have HOK := Aside0.mk (HOK.out.trans (by rw [decide_eq_true h30, Bool.true_and]))
    clear h30
    cases a with
    | false =>
      go_enter Tryd.func107, Tryd.ntmps107
      go_wp2_with (first
      | (go_at_call 111; (with_reducible refine (CV.out _ HT0.out).mono ?_); rintro e w1 ⟨rfl, hb⟩; have HB1 := Aside0.mk (below_then HB0.out HB0.out.size hb); have HT1 := Aside0.mk (HT0.out.below hb); have HX1 := Aside0.mk (HX0.out.below hb); obtain ⟨y0, y1, y2⟩ := HX1.out; clear hb))
      go_ret
      exact ⟨ret_b (by rw [HOK.out]; first | rfl | (simp; done)), HB1.out⟩
    | true =>
      go_enter Tryd.func107, Tryd.ntmps107
      go_wp2_with (first
      | (go_at_call 111; (with_reducible refine (CV.out _ HT0.out).mono ?_); rintro e w1 ⟨rfl, hb⟩; have HB1 := Aside0.mk (below_then HB0.out HB0.out.size hb); have HT1 := Aside0.mk (HT0.out.below hb); have HX1 := Aside0.mk (HX0.out.below hb); obtain ⟨y0, y1, y2⟩ := HX1.out; clear hb)
      | (go_at_call 117; (with_reducible refine (CB.out _ HT1.out).mono ?_); rintro e w2 ⟨rfl, hb⟩; have HB2 := Aside0.mk (below_then HB1.out HB1.out.size hb); obtain ⟨z0, z1, z2⟩ := HX1.out.below hb; clear hb))
      go_ret
      exact ⟨ret_b (by rw [HOK.out]; first | rfl | (simp; done)), HB2.out⟩
  · have g30 : (30 : Int) < (t.size : Int) := by omega
    have HOK := Aside0.mk (HOK.out.trans (by rw [decide_eq_false h30, Bool.false_and]))
    clear h30
    go_enter Tryd.func107, Tryd.ntmps107
    go_wp2_with fail
    go_ret
    exact ⟨ret_b (by rw [HOK.out]; first | rfl | (simp; done)), HB0.out⟩
set_option maxRecDepth 100000 in
set_option maxHeartbeats 4000000 in
theorem is_0 (k : Int) (t x : ByteArray) (w : World) (ht : t.size ≤ 1000) (hT : Tabs w) (h1 : k ≠ 1) (h2 : k ≠ 2) (h3 : k ≠ 3) (h4 : k ≠ 4) (h5 : k ≠ 5) :
    Calls Tryd.prog 107 #[.agg #[.int .i64 k, .string t, .string x]] w fun e w' => e = .returned (.bool false) ∧ Below w.heap.size w w' := by
  have g1 : (k == 1) = false := by simpa using h1
  have g2 : (k == 2) = false := by simpa using h2
  have g3 : (k == 3) = false := by simpa using h3
  have g4 : (k == 4) = false := by simpa using h4
  have g5 : (k == 5) = false := by simpa using h5
  have CV := Aside0.mk (fun W (h : Tabs W) => valid_any t W (by omega) h)
  obtain ⟨wb, hwb, HB0⟩ := boxT w k t x
  have HT0 := Aside0.mk (hT.below HB0.out)
  have HX0 : Aside0 (BoxedT wb w.heap.size k t x) := ⟨by rw [hwb]; exact BoxedT.new w k t x _⟩
  have hsz : (t.size : Int) ≤ 1000 := by omega
  rw [hwb] at HB0 HT0 HX0
  clear hwb hT h1 h2 h3 h4 h5
  by_cases h30 : t.size ≤ 30
  · have g30 : (t.size : Int) ≤ 30 := by omega
    clear h30
    go_enter Tryd.func107, Tryd.ntmps107
    go_wp2_with (first
      | (go_at_call 111; (with_reducible refine (CV.out _ HT0.out).mono ?_); rintro e w1 ⟨rfl, hb⟩; have HB1 := Aside0.mk (below_then HB0.out HB0.out.size hb); have HX1 := Aside0.mk (HX0.out.below hb); obtain ⟨y0, y1, y2⟩ := HX1.out; clear hb))
    go_ret
    exact ⟨rfl, HB1.out⟩
  · have g30 : (30 : Int) < (t.size : Int) := by omega
    clear h30
    go_enter Tryd.func107, Tryd.ntmps107
    go_wp2_with fail
    go_ret
    exact ⟨rfl, HB0.out⟩
theorem is_any (a : Trm) (w : World) (ht : a.t.size ≤ 1000) (hx : a.x.size ≤ 1000) (hT : Tabs w) : Calls Tryd.prog 107 #[a.val] w fun e w' => e = .returned (.bool (isB a)) ∧ Below w.heap.size w w' := by
  obtain ⟨k, t, x⟩ := a
  unfold Trm.val isB
  by_cases h1 : k = 1
  · subst h1; exact is_1 t x w ht hx hT _ (fun W h => iri_any t W (by simp only at ht; omega) h)
  by_cases h2 : k = 2
  · subst h2; exact is_2 t x w ht hx hT _ (fun W h => label_any t W (by simp only at ht; omega) h)
  by_cases h3 : k = 3
  · subst h3; exact is_3 t x w ht hx hT
  by_cases h4 : k = 4
  · subst h4; exact is_4 t x w ht hx hT _ (fun W h => lang_any x W hx h)
  by_cases h5 : k = 5
  · subst h5; exact is_5 t x w ht hx hT _ (fun W h => iri_any x W (by simp only at hx; omega) h)
  rw [if_neg h1, if_neg h2, if_neg h3, if_neg h4, if_neg h5]
  exact is_0 k t x w ht hT h1 h2 h3 h4 h5
end Go.Proofs.YtbaegfjoionojaaDoor.Tm
