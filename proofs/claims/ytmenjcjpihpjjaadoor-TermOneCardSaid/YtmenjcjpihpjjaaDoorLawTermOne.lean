/- The law TermOne: of two terms that may be the texts are one just if they are; a text is read as its term. -/
import Derived.Test.YtmenjcjpihpjjaaDoorTmOE
import Derived.Test.YtmenjcjpihpjjaaDoorTmT
import Derived.Test.YtmenjcjpihpjjaaDoorTmW
import Derived.Test.YtmenjcjpihpjjaaDoorTmOF
set_option linter.unusedSimpArgs false
set_option linter.unusedVariables false
namespace Go.Proofs.YtmenjcjpihpjjaaDoor.Tm
open Go Go.RowKit Go.Shelf Go.Proofs.YtmenjcjpihpjjaaDoorW.PrintWords

def longT (a : Trm) : Bool := decide (300 < a.t.size) || decide (300 < a.x.size)
def AtT (w : World) (b o : Nat) (a : Trm) : Prop := w.cell? ⟨b, o, none⟩ = some (.int .i64 a.k) ∧ w.cell? ⟨b, o + 1, none⟩ = some (.string a.t) ∧ w.cell? ⟨b, o + 2, none⟩ = some (.string a.x)
def RowT (w : World) (b : Nat) (a a2 : Trm) : Prop := AtT w b 0 a ∧ AtT w b 3 a2
theorem RowT.new (w : World) (a a2 : Trm) (ty : TypeId) : RowT (w.alloc (.cells #[.int .i64 a.k, .string a.t, .string a.x, .int .i64 a2.k, .string a2.t, .string a2.x] ty)) w.heap.size a a2 := by
  refine ⟨⟨?_, ?_, ?_⟩, ?_, ?_, ?_⟩ <;> simp
set_option maxRecDepth 100000 in
set_option maxHeartbeats 4000000 in
theorem long_any (a a2 : Trm) (L : Nat) (w : World) (hR : RowT w L a a2) :
    Calls Tryd.prog 16 #[.slice (some ⟨L, 0, none⟩) 2 2] w fun e w' => e = .returned (.bool (longT a || longT a2)) ∧ w' = w := by
  obtain ⟨⟨-, a1, a2'⟩, -, b1, b2⟩ := hR
  simp only [Nat.zero_add] at a1 a2'
  obtain ⟨k, t, x⟩ := a
  obtain ⟨k2, t2, x2⟩ := a2
  simp only at a1 a2' b1 b2
  have HL : Aside0 ((longT ⟨k, t, x⟩ || longT ⟨k2, t2, x2⟩) = ((decide (300 < t.size) || decide (300 < x.size)) || (decide (300 < t2.size) || decide (300 < x2.size)))) := ⟨rfl⟩
  go_enter Tryd.func16, Tryd.ntmps16
  go_wp2_with fail
  go_loopw [3] (fun x3 wr => ∃ i : Nat, x3 = .int .i64 i ∧ i ≤ 2 ∧ (1 ≤ i → t.size ≤ 300 ∧ x.size ≤ 300) ∧ (2 ≤ i → t2.size ≤ 300 ∧ x2.size ≤ 300) ∧ Aside0 (wr = w)) (fun x3 _ => 2 - (intOf x3).toNat)
  case atStart => exact ⟨0, rfl, by omega, by omega, by omega, ⟨rfl⟩⟩
  case round =>
    obtain ⟨i, rfl, hi, h1, h2, hw⟩ := hrel
    obtain rfl := hw.out
    rcases (show i = 0 ∨ i = 1 ∨ i = 2 by omega) with rfl | rfl | rfl
    · clear h1 h2 hi
      rw [show (((0 : Nat) : Int)) = 0 from rfl]
      by_cases g : 300 < t.size
      · have g1 : (300 : Int) < (t.size : Int) := by omega
        go_wp2_with fail
        go_ret
        exact ⟨ret_b (by rw [HL.out, decide_eq_true g]; rfl), rfl⟩
      · have g1 : (t.size : Int) ≤ 300 := by omega
        by_cases g' : 300 < x.size
        · have g2 : (300 : Int) < (x.size : Int) := by omega
          go_wp2_with fail
          go_ret
          exact ⟨ret_b (by rw [HL.out, decide_eq_true g']; simp), rfl⟩
        · have g2 : (x.size : Int) ≤ 300 := by omega
          go_wp2_with fail
          go_roundw
          case rel => exact ⟨1, by first | rfl | go_num, by omega, by omega, by omega, ⟨by first | trivial | rfl⟩⟩
          case measure => simp [intOf]
    · have h1 := h1 (by omega)
      clear h2 hi
      rw [show (((1 : Nat) : Int)) = 1 from rfl]
      by_cases g : 300 < t2.size
      · have g1 : (300 : Int) < (t2.size : Int) := by omega
        go_wp2_with fail
        go_ret
        exact ⟨ret_b (by rw [HL.out, decide_eq_true g]; simp), rfl⟩
      · have g1 : (t2.size : Int) ≤ 300 := by omega
        by_cases g' : 300 < x2.size
        · have g2 : (300 : Int) < (x2.size : Int) := by omega
          go_wp2_with fail
          go_ret
          exact ⟨ret_b (by rw [HL.out, decide_eq_true g']; simp), rfl⟩
        · have g2 : (x2.size : Int) ≤ 300 := by omega
          go_wp2_with fail
          go_roundw
          case rel => exact ⟨2, by first | rfl | go_num, by omega, by omega, by omega, ⟨by first | trivial | rfl⟩⟩
          case measure => simp [intOf]
    · have h1 := h1 (by omega)
      have h2 := h2 (by omega)
      clear hi
      rw [show (((2 : Nat) : Int)) = 2 from rfl]
      go_wp2_with fail
      go_ret
      exact ⟨ret_b (by rw [HL.out, decide_eq_false (by omega), decide_eq_false (by omega), decide_eq_false (by omega), decide_eq_false (by omega)]; rfl), rfl⟩
set_option maxRecDepth 100000 in
set_option maxHeartbeats 8000000 in
theorem one_long (k : Int) (t x : ByteArray) (k2 : Int) (t2 x2 : ByteArray) (w : World) (hT : Tabs w) (hl : (longT ⟨k, t, x⟩ || longT ⟨k2, t2, x2⟩) = true) :
    Calls Tryd.prog 7 #[.agg #[.int .i64 k, .string t, .string x], .agg #[.int .i64 k2, .string t2, .string x2]] w fun e w' => e = .returned (.bool true) ∧ Below w.heap.size w w' := by
  obtain ⟨wa, hwa, HA⟩ := boxT w k t x
  obtain ⟨wb, hwb, HB⟩ := boxT wa k2 t2 x2
  have hza : wa.heap.size = w.heap.size + 1 := by rw [hwa]; simp
  have hzb : wb.heap.size = w.heap.size + 2 := by rw [hwb]; simp; omega
  have HXA : Aside0 (BoxedT wb w.heap.size k t x) := ⟨by
    have : BoxedT wa w.heap.size k t x := by rw [hwa]; exact BoxedT.new w _ _ _ _
    exact this.below HB.out⟩
  have HXB : Aside0 (BoxedT wb (w.heap.size + 1) k2 t2 x2) := ⟨by rw [hwb, ← hza]; exact BoxedT.new wa _ _ _ _⟩
  have HB0 : Aside0 (Below w.heap.size w wb) := ⟨HA.out.trans (HB.out.mono HA.out.size)⟩
  obtain ⟨wl, hwl, HL⟩ : ∃ wl, wl = wb.alloc (.cells #[.int .i64 k, .string t, .string x, .int .i64 k2, .string t2, .string x2] 24) ∧ Aside0 (Below wb.heap.size wb wl) := ⟨_, rfl, ⟨below_alloc (Below.refl _ _) _⟩⟩
  have HRL : Aside0 (RowT wl (w.heap.size + 2) ⟨k, t, x⟩ ⟨k2, t2, x2⟩) := ⟨by rw [hwl, ← hzb]; exact RowT.new wb ⟨k, t, x⟩ ⟨k2, t2, x2⟩ _⟩
  have HB1 := Aside0.mk (below_then HB0.out HB0.out.size HL.out)
  have HT1 := Aside0.mk (hT.below HB1.out)
  have HX1 := Aside0.mk (HXA.out.below HL.out)
  have HY1 := Aside0.mk (HXB.out.below HL.out)
  have HW0 : Aside0 ((w.alloc (.cells #[.int .i64 k, .string t, .string x] 24)).alloc (.cells #[.int .i64 k2, .string t2, .string x2] 24) = wb) := ⟨by rw [hwb, hwa]⟩
  have HW1 : Aside0 (wb.alloc (.cells #[.int .i64 k, .string t, .string x, .int .i64 k2, .string t2, .string x2] 24) = wl) := ⟨hwl.symm⟩
  have HZB := Aside0.mk hzb
  have CL := Aside0.mk (long_any ⟨k, t, x⟩ ⟨k2, t2, x2⟩ (w.heap.size + 2) wl HRL.out)
  rw [hl] at CL
  clear hwa hwb hza hwl hT hl
  go_enter Tryd.func7, Tryd.ntmps7
  go_upto_region 1 with (fail)
  rw [HW0.out]
  obtain ⟨x0, x1, x2'⟩ := HXA.out
  obtain ⟨y0, y1, y2'⟩ := HXB.out
  go_wp2_with (go_at_call 16; rw [HW1.out]; (with_reducible refine CL.out.mono ?_); rintro e w1 ⟨rfl, rfl⟩; obtain ⟨u0, u1, u2⟩ := HX1.out; obtain ⟨v0, v1, v2⟩ := HY1.out)
  go_ret
  exact ⟨rfl, HB1.out⟩
set_option maxRecDepth 100000 in
set_option maxHeartbeats 8000000 in
theorem one_no1 (k : Int) (t x : ByteArray) (k2 : Int) (t2 x2 : ByteArray) (w : World) (hT : Tabs w) (hl : longT ⟨k, t, x⟩ = false) (hl2 : longT ⟨k2, t2, x2⟩ = false) (hok : isB ⟨k, t, x⟩ = false) :
    Calls Tryd.prog 7 #[.agg #[.int .i64 k, .string t, .string x], .agg #[.int .i64 k2, .string t2, .string x2]] w fun e w' => e = .returned (.bool true) ∧ Below w.heap.size w w' := by
  obtain ⟨wa, hwa, HA⟩ := boxT w k t x
  obtain ⟨wb, hwb, HB⟩ := boxT wa k2 t2 x2
  have hza : wa.heap.size = w.heap.size + 1 := by rw [hwa]; simp
  have hzb : wb.heap.size = w.heap.size + 2 := by rw [hwb]; simp; omega
  have HXA : Aside0 (BoxedT wb w.heap.size k t x) := ⟨by
    have : BoxedT wa w.heap.size k t x := by rw [hwa]; exact BoxedT.new w _ _ _ _
    exact this.below HB.out⟩
  have HXB : Aside0 (BoxedT wb (w.heap.size + 1) k2 t2 x2) := ⟨by rw [hwb, ← hza]; exact BoxedT.new wa _ _ _ _⟩
  have HB0 : Aside0 (Below w.heap.size w wb) := ⟨HA.out.trans (HB.out.mono HA.out.size)⟩
  obtain ⟨wl, hwl, HL⟩ : ∃ wl, wl = wb.alloc (.cells #[.int .i64 k, .string t, .string x, .int .i64 k2, .string t2, .string x2] 24) ∧ Aside0 (Below wb.heap.size wb wl) := ⟨_, rfl, ⟨below_alloc (Below.refl _ _) _⟩⟩
  have HRL : Aside0 (RowT wl (w.heap.size + 2) ⟨k, t, x⟩ ⟨k2, t2, x2⟩) := ⟨by rw [hwl, ← hzb]; exact RowT.new wb ⟨k, t, x⟩ ⟨k2, t2, x2⟩ _⟩
  have HB1 := Aside0.mk (below_then HB0.out HB0.out.size HL.out)
  have HT1 := Aside0.mk (hT.below HB1.out)
  have HX1 := Aside0.mk (HXA.out.below HL.out)
  have HY1 := Aside0.mk (HXB.out.below HL.out)
  have HW0 : Aside0 ((w.alloc (.cells #[.int .i64 k, .string t, .string x] 24)).alloc (.cells #[.int .i64 k2, .string t2, .string x2] 24) = wb) := ⟨by rw [hwb, hwa]⟩
  have HW1 : Aside0 (wb.alloc (.cells #[.int .i64 k, .string t, .string x, .int .i64 k2, .string t2, .string x2] 24) = wl) := ⟨hwl.symm⟩
  have HZB := Aside0.mk hzb
  have CL := Aside0.mk (long_any ⟨k, t, x⟩ ⟨k2, t2, x2⟩ (w.heap.size + 2) wl HRL.out)
  rw [hl, hl2] at CL
  simp only [Bool.or_self] at CL
  have hs1 : t.size ≤ 300 ∧ x.size ≤ 300 := by unfold longT at hl; simp at hl; exact hl
  have hs2 : t2.size ≤ 300 ∧ x2.size ≤ 300 := by unfold longT at hl2; simp at hl2; exact hl2
  have CA : Aside0 (∀ W, Tabs W → Calls Tryd.prog 14 #[.agg #[.int .i64 k, .string t, .string x]] W fun e w' => e = .returned (.bool false) ∧ Below W.heap.size W w') := ⟨fun W h => by
    have := refIs_any ⟨k, t, x⟩ W (by show (t : ByteArray).size ≤ 1000; omega) (by show (x : ByteArray).size ≤ 1000; omega) h
    rwa [hok] at this⟩
  clear hwa hwb hza hwl hT hl hl2 hs1 hs2 hok
  go_enter Tryd.func7, Tryd.ntmps7
  go_upto_region 1 with (fail)
  rw [HW0.out]
  obtain ⟨x0, x1, x2'⟩ := HXA.out
  obtain ⟨y0, y1, y2'⟩ := HXB.out
  go_wp2_with (first
    | (go_at_call 16; rw [HW1.out]; (with_reducible refine CL.out.mono ?_); rintro e w1 ⟨rfl, rfl⟩; obtain ⟨u0, u1, u2⟩ := HX1.out; obtain ⟨v0, v1, v2⟩ := HY1.out)
    | (go_at_call 14; (with_reducible refine (CA.out _ HT1.out).mono ?_); rintro e w2 ⟨rfl, hb⟩; have HB2 := Aside0.mk (below_then HB1.out HB1.out.size hb); clear hb))
  go_ret
  exact ⟨rfl, HB2.out⟩
set_option maxRecDepth 100000 in
set_option maxHeartbeats 8000000 in
theorem one_no2 (k : Int) (t x : ByteArray) (k2 : Int) (t2 x2 : ByteArray) (w : World) (hT : Tabs w) (hl : longT ⟨k, t, x⟩ = false) (hl2 : longT ⟨k2, t2, x2⟩ = false) (hok : isB ⟨k, t, x⟩ = true) (hok2 : isB ⟨k2, t2, x2⟩ = false) :
    Calls Tryd.prog 7 #[.agg #[.int .i64 k, .string t, .string x], .agg #[.int .i64 k2, .string t2, .string x2]] w fun e w' => e = .returned (.bool true) ∧ Below w.heap.size w w' := by
  obtain ⟨wa, hwa, HA⟩ := boxT w k t x
  obtain ⟨wb, hwb, HB⟩ := boxT wa k2 t2 x2
  have hza : wa.heap.size = w.heap.size + 1 := by rw [hwa]; simp
  have hzb : wb.heap.size = w.heap.size + 2 := by rw [hwb]; simp; omega
  have HXA : Aside0 (BoxedT wb w.heap.size k t x) := ⟨by
    have : BoxedT wa w.heap.size k t x := by rw [hwa]; exact BoxedT.new w _ _ _ _
    exact this.below HB.out⟩
  have HXB : Aside0 (BoxedT wb (w.heap.size + 1) k2 t2 x2) := ⟨by rw [hwb, ← hza]; exact BoxedT.new wa _ _ _ _⟩
  have HB0 : Aside0 (Below w.heap.size w wb) := ⟨HA.out.trans (HB.out.mono HA.out.size)⟩
  obtain ⟨wl, hwl, HL⟩ : ∃ wl, wl = wb.alloc (.cells #[.int .i64 k, .string t, .string x, .int .i64 k2, .string t2, .string x2] 24) ∧ Aside0 (Below wb.heap.size wb wl) := ⟨_, rfl, ⟨below_alloc (Below.refl _ _) _⟩⟩
  have HRL : Aside0 (RowT wl (w.heap.size + 2) ⟨k, t, x⟩ ⟨k2, t2, x2⟩) := ⟨by rw [hwl, ← hzb]; exact RowT.new wb ⟨k, t, x⟩ ⟨k2, t2, x2⟩ _⟩
  have HB1 := Aside0.mk (below_then HB0.out HB0.out.size HL.out)
  have HT1 := Aside0.mk (hT.below HB1.out)
  have HX1 := Aside0.mk (HXA.out.below HL.out)
  have HY1 := Aside0.mk (HXB.out.below HL.out)
  have HW0 : Aside0 ((w.alloc (.cells #[.int .i64 k, .string t, .string x] 24)).alloc (.cells #[.int .i64 k2, .string t2, .string x2] 24) = wb) := ⟨by rw [hwb, hwa]⟩
  have HW1 : Aside0 (wb.alloc (.cells #[.int .i64 k, .string t, .string x, .int .i64 k2, .string t2, .string x2] 24) = wl) := ⟨hwl.symm⟩
  have HZB := Aside0.mk hzb
  have CL := Aside0.mk (long_any ⟨k, t, x⟩ ⟨k2, t2, x2⟩ (w.heap.size + 2) wl HRL.out)
  rw [hl, hl2] at CL
  simp only [Bool.or_self] at CL
  have hs1 : t.size ≤ 300 ∧ x.size ≤ 300 := by unfold longT at hl; simp at hl; exact hl
  have hs2 : t2.size ≤ 300 ∧ x2.size ≤ 300 := by unfold longT at hl2; simp at hl2; exact hl2
  have CA : Aside0 (∀ W, Tabs W → Calls Tryd.prog 14 #[.agg #[.int .i64 k, .string t, .string x]] W fun e w' => e = .returned (.bool true) ∧ Below W.heap.size W w') := ⟨fun W h => by
    have := refIs_any ⟨k, t, x⟩ W (by show (t : ByteArray).size ≤ 1000; omega) (by show (x : ByteArray).size ≤ 1000; omega) h
    rwa [hok] at this⟩
  have CB : Aside0 (∀ W, Tabs W → Calls Tryd.prog 14 #[.agg #[.int .i64 k2, .string t2, .string x2]] W fun e w' => e = .returned (.bool false) ∧ Below W.heap.size W w') := ⟨fun W h => by
    have := refIs_any ⟨k2, t2, x2⟩ W (by show (t2 : ByteArray).size ≤ 1000; omega) (by show (x2 : ByteArray).size ≤ 1000; omega) h
    rwa [hok2] at this⟩
  clear hwa hwb hza hwl hT hl hl2 hs1 hs2 hok hok2
  go_enter Tryd.func7, Tryd.ntmps7
  go_upto_region 1 with (fail)
  rw [HW0.out]
  obtain ⟨x0, x1, x2'⟩ := HXA.out
  obtain ⟨y0, y1, y2'⟩ := HXB.out
  go_wp2_with (first
    | (go_at_call 16; rw [HW1.out]; (with_reducible refine CL.out.mono ?_); rintro e w1 ⟨rfl, rfl⟩; obtain ⟨u0, u1, u2⟩ := HX1.out; obtain ⟨v0, v1, v2⟩ := HY1.out)
    | (go_at_call 14; (with_reducible refine (CA.out _ HT1.out).mono ?_); rintro e w2 ⟨rfl, hb⟩; have HB2 := Aside0.mk (below_then HB1.out HB1.out.size hb); have HT2 := Aside0.mk (HT1.out.below hb); obtain ⟨v0, v1, v2⟩ := HY1.out.below hb; clear hb)
    | (go_at_call 14; (with_reducible refine (CB.out _ HT2.out).mono ?_); rintro e w3 ⟨rfl, hb⟩; have HB3 := Aside0.mk (below_then HB2.out HB2.out.size hb); clear hb))
  go_ret
  exact ⟨rfl, HB3.out⟩
set_option maxRecDepth 100000 in
set_option maxHeartbeats 8000000 in
theorem one_main (k : Int) (t x : ByteArray) (k2 : Int) (t2 x2 : ByteArray) (w : World) (hT : Tabs w) (hl : longT ⟨k, t, x⟩ = false) (hl2 : longT ⟨k2, t2, x2⟩ = false) (hok : isB ⟨k, t, x⟩ = true) (hok2 : isB ⟨k2, t2, x2⟩ = true) (p q : ByteArray) (hp : showS ⟨k, t, x⟩ = p) (hq : showS ⟨k2, t2, x2⟩ = q) (c : Int) (hc : cmpS p q = c) (d : Bool) (hd : decide ((⟨k, t, x⟩ : Trm) = ⟨k2, t2, x2⟩) = d) :
    Calls Tryd.prog 7 #[.agg #[.int .i64 k, .string t, .string x], .agg #[.int .i64 k2, .string t2, .string x2]] w fun e w' => e = .returned (.bool true) ∧ Below w.heap.size w w' := by
  obtain ⟨wa, hwa, HA⟩ := boxT w k t x
  obtain ⟨wb, hwb, HB⟩ := boxT wa k2 t2 x2
  have hza : wa.heap.size = w.heap.size + 1 := by rw [hwa]; simp
  have hzb : wb.heap.size = w.heap.size + 2 := by rw [hwb]; simp; omega
  have HXA : Aside0 (BoxedT wb w.heap.size k t x) := ⟨by
    have : BoxedT wa w.heap.size k t x := by rw [hwa]; exact BoxedT.new w _ _ _ _
    exact this.below HB.out⟩
  have HXB : Aside0 (BoxedT wb (w.heap.size + 1) k2 t2 x2) := ⟨by rw [hwb, ← hza]; exact BoxedT.new wa _ _ _ _⟩
  have HB0 : Aside0 (Below w.heap.size w wb) := ⟨HA.out.trans (HB.out.mono HA.out.size)⟩
  obtain ⟨wl, hwl, HL⟩ : ∃ wl, wl = wb.alloc (.cells #[.int .i64 k, .string t, .string x, .int .i64 k2, .string t2, .string x2] 24) ∧ Aside0 (Below wb.heap.size wb wl) := ⟨_, rfl, ⟨below_alloc (Below.refl _ _) _⟩⟩
  have HRL : Aside0 (RowT wl (w.heap.size + 2) ⟨k, t, x⟩ ⟨k2, t2, x2⟩) := ⟨by rw [hwl, ← hzb]; exact RowT.new wb ⟨k, t, x⟩ ⟨k2, t2, x2⟩ _⟩
  have HB1 := Aside0.mk (below_then HB0.out HB0.out.size HL.out)
  have HT1 := Aside0.mk (hT.below HB1.out)
  have HX1 := Aside0.mk (HXA.out.below HL.out)
  have HY1 := Aside0.mk (HXB.out.below HL.out)
  have HW0 : Aside0 ((w.alloc (.cells #[.int .i64 k, .string t, .string x] 24)).alloc (.cells #[.int .i64 k2, .string t2, .string x2] 24) = wb) := ⟨by rw [hwb, hwa]⟩
  have HW1 : Aside0 (wb.alloc (.cells #[.int .i64 k, .string t, .string x, .int .i64 k2, .string t2, .string x2] 24) = wl) := ⟨hwl.symm⟩
  have HZB := Aside0.mk hzb
  have CL := Aside0.mk (long_any ⟨k, t, x⟩ ⟨k2, t2, x2⟩ (w.heap.size + 2) wl HRL.out)
  rw [hl, hl2] at CL
  simp only [Bool.or_self] at CL
  have hs1 : t.size ≤ 300 ∧ x.size ≤ 300 := by unfold longT at hl; simp at hl; exact hl
  have hs2 : t2.size ≤ 300 ∧ x2.size ≤ 300 := by unfold longT at hl2; simp at hl2; exact hl2
  have CA : Aside0 (∀ W, Tabs W → Calls Tryd.prog 14 #[.agg #[.int .i64 k, .string t, .string x]] W fun e w' => e = .returned (.bool true) ∧ Below W.heap.size W w') := ⟨fun W h => by
    have := refIs_any ⟨k, t, x⟩ W (by show (t : ByteArray).size ≤ 1000; omega) (by show (x : ByteArray).size ≤ 1000; omega) h
    rwa [hok] at this⟩
  have CB : Aside0 (∀ W, Tabs W → Calls Tryd.prog 14 #[.agg #[.int .i64 k2, .string t2, .string x2]] W fun e w' => e = .returned (.bool true) ∧ Below W.heap.size W w') := ⟨fun W h => by
    have := refIs_any ⟨k2, t2, x2⟩ W (by show (t2 : ByteArray).size ≤ 1000; omega) (by show (x2 : ByteArray).size ≤ 1000; omega) h
    rwa [hok2] at this⟩
  have CS : Aside0 (∀ W, Calls Tryd.prog 12 #[.agg #[.int .i64 k, .string t, .string x]] W fun e w' => e = .returned (.string p) ∧ Below W.heap.size W w') := ⟨fun W => by
    have := show_any ⟨k, t, x⟩ W (by show t.size ≤ 1000; omega) (by show x.size ≤ 1000; omega)
    rwa [show showS ⟨k, t, x⟩ = p from hp] at this⟩
  have CS2 : Aside0 (∀ W, Calls Tryd.prog 12 #[.agg #[.int .i64 k2, .string t2, .string x2]] W fun e w' => e = .returned (.string q) ∧ Below W.heap.size W w') := ⟨fun W => by
    have := show_any ⟨k2, t2, x2⟩ W (by show t2.size ≤ 1000; omega) (by show x2.size ≤ 1000; omega)
    rwa [show showS ⟨k2, t2, x2⟩ = q from hq] at this⟩
  have CR : Aside0 (∀ W, Tabs W → Calls Tryd.prog 13 #[.string p] W fun e w' => e = .returned (.tuple #[.agg #[.int .i64 k, .string t, .string x], .bool true]) ∧ Below W.heap.size W w') := ⟨fun W h => refTerm_any k t x p W hok hp h⟩
  have CC : Aside0 (∀ W, Calls Tryd.prog 17 #[.agg #[.int .i64 k, .string t, .string x], .agg #[.int .i64 k2, .string t2, .string x2]] W fun e w' => e = .returned (.int .i64 c) ∧ Below W.heap.size W w') := ⟨fun W => by
    have := cmp_any ⟨k, t, x⟩ ⟨k2, t2, x2⟩ W (by show t.size ≤ 1000; omega) (by show x.size ≤ 1000; omega) (by show t2.size ≤ 1000; omega) (by show x2.size ≤ 1000; omega)
    rwa [show cmpS (showS ⟨k, t, x⟩) (showS ⟨k2, t2, x2⟩) = c by rw [hp, hq]; exact hc] at this⟩
  have CK := Aside0.mk known_any
  have hpz : p.size ≤ 250 := by rw [← hp]; exact show_size hok
  have hpz2 : (p.size : Int) ≤ 250 := by omega
  have HEQ : Aside0 (∀ W : World, (Op.equalIn 10000 24 (.agg #[.int .i64 k, .string t, .string x]) (.agg #[.int .i64 k2, .string t2, .string x2])).run Tryd.prog W = .ok d W) := ⟨fun W => by
    have := term_eq W ⟨k, t, x⟩ ⟨k2, t2, x2⟩
    rw [show decide ((⟨k, t, x⟩ : Trm) = ⟨k2, t2, x2⟩) = d from hd] at this
    exact this⟩
  have HEQ1 : Aside0 (∀ W : World, (Op.equalIn 10000 24 (.agg #[.int .i64 k, .string t, .string x]) (.agg #[.int .i64 k, .string t, .string x])).run Tryd.prog W = .ok true W) := ⟨fun W => by
    have := term_eq W ⟨k, t, x⟩ ⟨k, t, x⟩
    simpa using this⟩
  have HPQ : Aside0 ((p.toList == q.toList) = d) := ⟨by rw [← hp, ← hq, show_eq hok hok2]; exact hd⟩
  have HCZ : Aside0 ((c == 0) = d) := ⟨by
    rw [← hc, ← hd]
    by_cases h : (⟨k, t, x⟩ : Trm) = ⟨k2, t2, x2⟩
    · rw [decide_eq_true h, beq_iff_eq]
      exact (cmp_zero p q).2 (by rw [← hp, ← hq, h])
    · rw [decide_eq_false h, beq_eq_false_iff_ne]
      intro hh
      exact h (show_inj hok hok2 (by rw [hp, hq]; exact (cmp_zero p q).1 hh))⟩
  clear hwa hwb hza hwl hT hl hl2 hs1 hs2 hok hok2 hp hq hc hd hpz
  go_enter Tryd.func7, Tryd.ntmps7
  go_upto_region 1 with (fail)
  rw [HW0.out]
  obtain ⟨x0, x1, x2'⟩ := HXA.out
  obtain ⟨y0, y1, y2'⟩ := HXB.out
  go_upto_region 3 with (first
    | (go_at_call 16; rw [HW1.out]; (with_reducible refine CL.out.mono ?_); rintro e w1 ⟨rfl, rfl⟩; obtain ⟨u0, u1, u2⟩ := HX1.out; obtain ⟨v0, v1, v2⟩ := HY1.out)
    | (go_at_call 14; (with_reducible refine (CA.out _ HT1.out).mono ?_); rintro e w2 ⟨rfl, hb⟩; have HB2 := Aside0.mk (below_then HB1.out HB1.out.size hb); have HT2 := Aside0.mk (HT1.out.below hb); have HX2 := Aside0.mk (HX1.out.below hb); have HY2 := Aside0.mk (HY1.out.below hb); obtain ⟨v0, v1, v2⟩ := HY2.out; clear hb)
    | (go_at_call 14; (with_reducible refine (CB.out _ HT2.out).mono ?_); rintro e w3 ⟨rfl, hb⟩; have HB3 := Aside0.mk (below_then HB2.out HB2.out.size hb); have HT3 := Aside0.mk (HT2.out.below hb); have HX3 := Aside0.mk (HX2.out.below hb); have HY3 := Aside0.mk (HY2.out.below hb); clear hb))
  clear hzb
  have HB3d := Aside0.mk (below_drew HB3.out)
  have HT3d := Aside0.mk (HT3.out.below (below_drew (Below.refl _ _)))
  have HX3d : Aside0 (BoxedT w3.drew w.heap.size k t x) := ⟨HX3.out⟩
  have HY3d : Aside0 (BoxedT w3.drew (w.heap.size + 1) k2 t2 x2) := ⟨HY3.out⟩
  have hS : (fun W : World => (W.cell? ⟨w.heap.size, 0, none⟩ = some (.int .i64 k) ∧ W.cell? ⟨w.heap.size, 1, none⟩ = some (.string t) ∧ W.cell? ⟨w.heap.size, 2, none⟩ = some (.string x)) ∧ (W.cell? ⟨w.heap.size + 1, 0, none⟩ = some (.int .i64 k2) ∧ W.cell? ⟨w.heap.size + 1, 1, none⟩ = some (.string t2) ∧ W.cell? ⟨w.heap.size + 1, 2, none⟩ = some (.string x2))) w3.drew := ⟨HX3d.out, HY3d.out⟩
  refine wp_region_held (S := (fun W : World => (W.cell? ⟨w.heap.size, 0, none⟩ = some (.int .i64 k) ∧ W.cell? ⟨w.heap.size, 1, none⟩ = some (.string t) ∧ W.cell? ⟨w.heap.size, 2, none⟩ = some (.string x)) ∧ (W.cell? ⟨w.heap.size + 1, 0, none⟩ = some (.int .i64 k2) ∧ W.cell? ⟨w.heap.size + 1, 1, none⟩ = some (.string t2) ∧ W.cell? ⟨w.heap.size + 1, 2, none⟩ = some (.string x2)))) (by kernel_rfl) ?_
  change wpAnyH _ _ _ _ _ _ _ _ w3.drew
  first
    | (refine wpAnyH_take (i := 0) (v := undef) rfl (by kernel_rfl) (by kernel_rfl) (by kernel_rfl) (fun _ _ _ h => h) (Or.inr ⟨by rfl, rfl⟩) hS ?_)
    | (refine wpAnyH_take (i := 0) (v := ?_) rfl (by kernel_rfl) (by kernel_rfl) (by kernel_rfl) (fun _ _ _ h => h) (Or.inl ⟨by rfl, ?_⟩) hS ?_
       rotate_left 1
       · (intro w0 hSw; (try dsimp only at hSw); go_split_ands; go_simp; try with_reducible rfl))
    | fail
  try simp only [Act.put, List.getElem_toArray, List.getElem_cons_succ, List.getElem_cons_zero, List.setIfInBounds_toArray, List.set_cons_zero, List.set_cons_succ]
  first
    | (refine wpAnyH_take (i := 2) (v := undef) rfl (by kernel_rfl) (by kernel_rfl) (by kernel_rfl) (fun _ _ _ h => h) (Or.inr ⟨by rfl, rfl⟩) hS ?_)
    | (refine wpAnyH_take (i := 2) (v := ?_) rfl (by kernel_rfl) (by kernel_rfl) (by kernel_rfl) (fun _ _ _ h => h) (Or.inl ⟨by rfl, ?_⟩) hS ?_
       rotate_left 1
       · (intro w0 hSw; (try dsimp only at hSw); go_split_ands; go_simp; try with_reducible rfl))
    | fail
  try simp only [Act.put, List.getElem_toArray, List.getElem_cons_succ, List.getElem_cons_zero, List.setIfInBounds_toArray, List.set_cons_zero, List.set_cons_succ]
  refine wpAnyH_ready (rs := [1]) (by kernel_rfl) (by simp) ?_
  refine AllReadyH.cons rfl (fun K hK => ?_) AllReadyH.nil
  go_simp
  refine (CS.out _).mono ?_
  rintro e w4 ⟨rfl, hb⟩
  have HB4 := Aside0.mk (below_then HB3d.out HB3d.out.size hb)
  have HT4 := Aside0.mk (HT3d.out.below hb)
  have HX4 := Aside0.mk (HX3d.out.below hb)
  have HY4 := Aside0.mk (HY3d.out.below hb)
  clear hb hS
  have hS : (fun W : World => (W.cell? ⟨w.heap.size, 0, none⟩ = some (.int .i64 k) ∧ W.cell? ⟨w.heap.size, 1, none⟩ = some (.string t) ∧ W.cell? ⟨w.heap.size, 2, none⟩ = some (.string x)) ∧ (W.cell? ⟨w.heap.size + 1, 0, none⟩ = some (.int .i64 k2) ∧ W.cell? ⟨w.heap.size + 1, 1, none⟩ = some (.string t2) ∧ W.cell? ⟨w.heap.size + 1, 2, none⟩ = some (.string x2))) w4 := ⟨HX4.out, HY4.out⟩
  refine hK.out _ _ hS (fun _ => ?_)
  clear hK K
  try simp only [Act.put, List.getElem_toArray, List.getElem_cons_succ, List.getElem_cons_zero, List.setIfInBounds_toArray, List.set_cons_zero, List.set_cons_succ]
  refine wpAnyH_ready (rs := [3]) (by kernel_rfl) (by simp) ?_
  refine AllReadyH.cons rfl (fun K hK => ?_) AllReadyH.nil
  go_simp
  refine (CS2.out _).mono ?_
  rintro e w5 ⟨rfl, hb⟩
  have HB5 := Aside0.mk (below_then HB4.out HB4.out.size hb)
  have HT5 := Aside0.mk (HT4.out.below hb)
  have HX5 := Aside0.mk (HX4.out.below hb)
  have HY5 := Aside0.mk (HY4.out.below hb)
  clear hb hS
  have hS : (fun W : World => (W.cell? ⟨w.heap.size, 0, none⟩ = some (.int .i64 k) ∧ W.cell? ⟨w.heap.size, 1, none⟩ = some (.string t) ∧ W.cell? ⟨w.heap.size, 2, none⟩ = some (.string x)) ∧ (W.cell? ⟨w.heap.size + 1, 0, none⟩ = some (.int .i64 k2) ∧ W.cell? ⟨w.heap.size + 1, 1, none⟩ = some (.string t2) ∧ W.cell? ⟨w.heap.size + 1, 2, none⟩ = some (.string x2))) w5 := ⟨HX5.out, HY5.out⟩
  refine hK.out _ _ hS (fun _ => ?_)
  clear hK K
  try simp only [Act.put, List.getElem_toArray, List.getElem_cons_succ, List.getElem_cons_zero, List.setIfInBounds_toArray, List.set_cons_zero, List.set_cons_succ]
  first
    | (refine wpAnyH_take (i := 4) (v := undef) rfl (by kernel_rfl) (by kernel_rfl) (by kernel_rfl) (fun _ _ _ h => h) (Or.inr ⟨by rfl, rfl⟩) hS ?_)
    | (refine wpAnyH_take (i := 4) (v := ?_) rfl (by kernel_rfl) (by kernel_rfl) (by kernel_rfl) (fun _ _ _ h => h) (Or.inl ⟨by rfl, ?_⟩) hS ?_
       rotate_left 1
       · (intro w0 hSw; (try dsimp only at hSw); go_split_ands; go_simp; try with_reducible rfl))
    | fail
  try simp only [Act.put, List.getElem_toArray, List.getElem_cons_succ, List.getElem_cons_zero, List.setIfInBounds_toArray, List.set_cons_zero, List.set_cons_succ]
  first
    | (refine wpAnyH_take (i := 5) (v := undef) rfl (by kernel_rfl) (by kernel_rfl) (by kernel_rfl) (fun _ _ _ h => h) (Or.inr ⟨by rfl, rfl⟩) hS ?_)
    | (refine wpAnyH_take (i := 5) (v := ?_) rfl (by kernel_rfl) (by kernel_rfl) (by kernel_rfl) (fun _ _ _ h => h) (Or.inl ⟨by rfl, ?_⟩) hS ?_
       rotate_left 1
       · (intro w0 hSw; (try dsimp only at hSw); go_split_ands; go_simp; try with_reducible rfl))
    | fail
  try simp only [Act.put, List.getElem_toArray, List.getElem_cons_succ, List.getElem_cons_zero, List.setIfInBounds_toArray, List.set_cons_zero, List.set_cons_succ]
  refine wpAnyH_done (by kernel_rfl) ?_ _
  clear hS
  go_upto_region 5 with (go_at_call 13; (with_reducible refine (CR.out _ HT5.out).mono ?_); rintro e w6 ⟨rfl, hb⟩; have HB6 := Aside0.mk (below_then HB5.out HB5.out.size hb); have HT6 := Aside0.mk (HT5.out.below hb); have HX6 := Aside0.mk (HX5.out.below hb); have HY6 := Aside0.mk (HY5.out.below hb); clear hb)
  obtain ⟨wu, hwu, HU⟩ := boxT w6 k t x
  rw [← hwu]
  have HBd := Aside0.mk (below_drew (below_then HB6.out HB6.out.size HU.out))
  have HTd := Aside0.mk ((HT6.out.below HU.out).below (below_drew (Below.refl _ _)))
  have HXd : Aside0 (BoxedT wu.drew w.heap.size k t x) := ⟨show BoxedT wu w.heap.size k t x from HX6.out.below HU.out⟩
  have HYd : Aside0 (BoxedT wu.drew (w.heap.size + 1) k2 t2 x2) := ⟨show BoxedT wu (w.heap.size + 1) k2 t2 x2 from HY6.out.below HU.out⟩
  have HZd : Aside0 (BoxedT wu.drew w6.heap.size k t x) := ⟨by rw [hwu]; exact BoxedT.new w6 _ _ _ _⟩
  clear hwu
  have heq := HEQ.out
  have heq1 := HEQ1.out
  have hpq := HPQ.out
  have hcz := HCZ.out
  have hS : (fun W : World => (W.cell? ⟨w.heap.size, 0, none⟩ = some (.int .i64 k) ∧ W.cell? ⟨w.heap.size, 1, none⟩ = some (.string t) ∧ W.cell? ⟨w.heap.size, 2, none⟩ = some (.string x)) ∧ (W.cell? ⟨w.heap.size + 1, 0, none⟩ = some (.int .i64 k2) ∧ W.cell? ⟨w.heap.size + 1, 1, none⟩ = some (.string t2) ∧ W.cell? ⟨w.heap.size + 1, 2, none⟩ = some (.string x2)) ∧ (W.cell? ⟨w6.heap.size, 0, none⟩ = some (.int .i64 k) ∧ W.cell? ⟨w6.heap.size, 1, none⟩ = some (.string t) ∧ W.cell? ⟨w6.heap.size, 2, none⟩ = some (.string x))) wu.drew := ⟨HXd.out, HYd.out, HZd.out⟩
  refine wp_region_held (S := (fun W : World => (W.cell? ⟨w.heap.size, 0, none⟩ = some (.int .i64 k) ∧ W.cell? ⟨w.heap.size, 1, none⟩ = some (.string t) ∧ W.cell? ⟨w.heap.size, 2, none⟩ = some (.string x)) ∧ (W.cell? ⟨w.heap.size + 1, 0, none⟩ = some (.int .i64 k2) ∧ W.cell? ⟨w.heap.size + 1, 1, none⟩ = some (.string t2) ∧ W.cell? ⟨w.heap.size + 1, 2, none⟩ = some (.string x2)) ∧ (W.cell? ⟨w6.heap.size, 0, none⟩ = some (.int .i64 k) ∧ W.cell? ⟨w6.heap.size, 1, none⟩ = some (.string t) ∧ W.cell? ⟨w6.heap.size, 2, none⟩ = some (.string x)))) (by kernel_rfl) ?_
  change wpAnyH _ _ _ _ _ _ _ _ wu.drew
  first
    | (refine wpAnyH_take (i := 0) (v := undef) rfl (by kernel_rfl) (by kernel_rfl) (by kernel_rfl) (fun _ _ _ h => h) (Or.inr ⟨by rfl, rfl⟩) hS ?_)
    | (refine wpAnyH_take (i := 0) (v := ?_) rfl (by kernel_rfl) (by kernel_rfl) (by kernel_rfl) (fun _ _ _ h => h) (Or.inl ⟨by rfl, ?_⟩) hS ?_
       rotate_left 1
       · (intro w0 hSw; (try dsimp only at hSw); go_split_ands; go_simp; try with_reducible rfl))
    | fail
  try simp only [Act.put, List.getElem_toArray, List.getElem_cons_succ, List.getElem_cons_zero, List.setIfInBounds_toArray, List.set_cons_zero, List.set_cons_succ]
  first
    | (refine wpAnyH_take (i := 1) (v := undef) rfl (by kernel_rfl) (by kernel_rfl) (by kernel_rfl) (fun _ _ _ h => h) (Or.inr ⟨by rfl, rfl⟩) hS ?_)
    | (refine wpAnyH_take (i := 1) (v := ?_) rfl (by kernel_rfl) (by kernel_rfl) (by kernel_rfl) (fun _ _ _ h => h) (Or.inl ⟨by rfl, ?_⟩) hS ?_
       rotate_left 1
       · (intro w0 hSw; (try dsimp only at hSw); go_split_ands; go_simp; try with_reducible rfl))
    | fail
  try simp only [Act.put, List.getElem_toArray, List.getElem_cons_succ, List.getElem_cons_zero, List.setIfInBounds_toArray, List.set_cons_zero, List.set_cons_succ]
  first
    | (refine wpAnyH_take (i := 2) (v := undef) rfl (by kernel_rfl) (by kernel_rfl) (by kernel_rfl) (fun _ _ _ h => h) (Or.inr ⟨by rfl, rfl⟩) hS ?_)
    | (refine wpAnyH_take (i := 2) (v := ?_) rfl (by kernel_rfl) (by kernel_rfl) (by kernel_rfl) (fun _ _ _ h => h) (Or.inl ⟨by rfl, ?_⟩) hS ?_
       rotate_left 1
       · (intro w0 hSw; (try dsimp only at hSw); go_split_ands; go_simp; try with_reducible rfl))
    | fail
  try simp only [Act.put, List.getElem_toArray, List.getElem_cons_succ, List.getElem_cons_zero, List.setIfInBounds_toArray, List.set_cons_zero, List.set_cons_succ]
  first
    | (refine wpAnyH_take (i := 3) (v := undef) rfl (by kernel_rfl) (by kernel_rfl) (by kernel_rfl) (fun _ _ _ h => h) (Or.inr ⟨by rfl, rfl⟩) hS ?_)
    | (refine wpAnyH_take (i := 3) (v := ?_) rfl (by kernel_rfl) (by kernel_rfl) (by kernel_rfl) (fun _ _ _ h => h) (Or.inl ⟨by rfl, ?_⟩) hS ?_
       rotate_left 1
       · (intro w0 hSw; (try dsimp only at hSw); go_split_ands; go_simp; try with_reducible rfl))
    | fail
  try simp only [Act.put, List.getElem_toArray, List.getElem_cons_succ, List.getElem_cons_zero, List.setIfInBounds_toArray, List.set_cons_zero, List.set_cons_succ]
  first
    | (refine wpAnyH_take (i := 4) (v := undef) rfl (by kernel_rfl) (by kernel_rfl) (by kernel_rfl) (fun _ _ _ h => h) (Or.inr ⟨by rfl, rfl⟩) hS ?_)
    | (refine wpAnyH_take (i := 4) (v := ?_) rfl (by kernel_rfl) (by kernel_rfl) (by kernel_rfl) (fun _ _ _ h => h) (Or.inl ⟨by rfl, ?_⟩) hS ?_
       rotate_left 1
       · (intro w0 hSw; (try dsimp only at hSw); go_split_ands; go_simp; try with_reducible rfl))
    | fail
  try simp only [Act.put, List.getElem_toArray, List.getElem_cons_succ, List.getElem_cons_zero, List.setIfInBounds_toArray, List.set_cons_zero, List.set_cons_succ]
  first
    | (refine wpAnyH_take (i := 5) (v := undef) rfl (by kernel_rfl) (by kernel_rfl) (by kernel_rfl) (fun _ _ _ h => h) (Or.inr ⟨by rfl, rfl⟩) hS ?_)
    | (refine wpAnyH_take (i := 5) (v := ?_) rfl (by kernel_rfl) (by kernel_rfl) (by kernel_rfl) (fun _ _ _ h => h) (Or.inl ⟨by rfl, ?_⟩) hS ?_
       rotate_left 1
       · (intro w0 hSw; (try dsimp only at hSw); go_split_ands; go_simp; try with_reducible rfl))
    | fail
  try simp only [Act.put, List.getElem_toArray, List.getElem_cons_succ, List.getElem_cons_zero, List.setIfInBounds_toArray, List.set_cons_zero, List.set_cons_succ]
  first
    | (refine wpAnyH_take (i := 6) (v := undef) rfl (by kernel_rfl) (by kernel_rfl) (by kernel_rfl) (fun _ _ _ h => h) (Or.inr ⟨by rfl, rfl⟩) hS ?_)
    | (refine wpAnyH_take (i := 6) (v := ?_) rfl (by kernel_rfl) (by kernel_rfl) (by kernel_rfl) (fun _ _ _ h => h) (Or.inl ⟨by rfl, ?_⟩) hS ?_
       rotate_left 1
       · (intro w0 hSw; (try dsimp only at hSw); go_split_ands; go_simp; try with_reducible rfl))
    | fail
  try simp only [Act.put, List.getElem_toArray, List.getElem_cons_succ, List.getElem_cons_zero, List.setIfInBounds_toArray, List.set_cons_zero, List.set_cons_succ]
  first
    | (refine wpAnyH_take (i := 7) (v := undef) rfl (by kernel_rfl) (by kernel_rfl) (by kernel_rfl) (fun _ _ _ h => h) (Or.inr ⟨by rfl, rfl⟩) hS ?_)
    | (refine wpAnyH_take (i := 7) (v := ?_) rfl (by kernel_rfl) (by kernel_rfl) (by kernel_rfl) (fun _ _ _ h => h) (Or.inl ⟨by rfl, ?_⟩) hS ?_
       rotate_left 1
       · (intro w0 hSw; (try dsimp only at hSw); go_split_ands; go_simp; try with_reducible rfl))
    | fail
  try simp only [Act.put, List.getElem_toArray, List.getElem_cons_succ, List.getElem_cons_zero, List.setIfInBounds_toArray, List.set_cons_zero, List.set_cons_succ]
  first
    | (refine wpAnyH_take (i := 8) (v := undef) rfl (by kernel_rfl) (by kernel_rfl) (by kernel_rfl) (fun _ _ _ h => h) (Or.inr ⟨by rfl, rfl⟩) hS ?_)
    | (refine wpAnyH_take (i := 8) (v := ?_) rfl (by kernel_rfl) (by kernel_rfl) (by kernel_rfl) (fun _ _ _ h => h) (Or.inl ⟨by rfl, ?_⟩) hS ?_
       rotate_left 1
       · (intro w0 hSw; (try dsimp only at hSw); go_split_ands; go_simp; try with_reducible rfl))
    | fail
  try simp only [Act.put, List.getElem_toArray, List.getElem_cons_succ, List.getElem_cons_zero, List.setIfInBounds_toArray, List.set_cons_zero, List.set_cons_succ]
  first
    | (refine wpAnyH_take (i := 9) (v := undef) rfl (by kernel_rfl) (by kernel_rfl) (by kernel_rfl) (fun _ _ _ h => h) (Or.inr ⟨by rfl, rfl⟩) hS ?_)
    | (refine wpAnyH_take (i := 9) (v := ?_) rfl (by kernel_rfl) (by kernel_rfl) (by kernel_rfl) (fun _ _ _ h => h) (Or.inl ⟨by rfl, ?_⟩) hS ?_
       rotate_left 1
       · (intro w0 hSw; (try dsimp only at hSw); go_split_ands; go_simp; try with_reducible rfl))
    | fail
  try simp only [Act.put, List.getElem_toArray, List.getElem_cons_succ, List.getElem_cons_zero, List.setIfInBounds_toArray, List.set_cons_zero, List.set_cons_succ]
  first
    | (refine wpAnyH_take (i := 12) (v := undef) rfl (by kernel_rfl) (by kernel_rfl) (by kernel_rfl) (fun _ _ _ h => h) (Or.inr ⟨by rfl, rfl⟩) hS ?_)
    | (refine wpAnyH_take (i := 12) (v := ?_) rfl (by kernel_rfl) (by kernel_rfl) (by kernel_rfl) (fun _ _ _ h => h) (Or.inl ⟨by rfl, ?_⟩) hS ?_
       rotate_left 1
       · (intro w0 hSw; (try dsimp only at hSw); go_split_ands; go_simp; try with_reducible rfl))
    | fail
  try simp only [Act.put, List.getElem_toArray, List.getElem_cons_succ, List.getElem_cons_zero, List.setIfInBounds_toArray, List.set_cons_zero, List.set_cons_succ]
  first
    | (refine wpAnyH_take (i := 13) (v := undef) rfl (by kernel_rfl) (by kernel_rfl) (by kernel_rfl) (fun _ _ _ h => h) (Or.inr ⟨by rfl, rfl⟩) hS ?_)
    | (refine wpAnyH_take (i := 13) (v := ?_) rfl (by kernel_rfl) (by kernel_rfl) (by kernel_rfl) (fun _ _ _ h => h) (Or.inl ⟨by rfl, ?_⟩) hS ?_
       rotate_left 1
       · (intro w0 hSw; (try dsimp only at hSw); go_split_ands; go_simp; try with_reducible rfl))
    | fail
  try simp only [Act.put, List.getElem_toArray, List.getElem_cons_succ, List.getElem_cons_zero, List.setIfInBounds_toArray, List.set_cons_zero, List.set_cons_succ]
  first
    | (refine wpAnyH_take (i := 14) (v := undef) rfl (by kernel_rfl) (by kernel_rfl) (by kernel_rfl) (fun _ _ _ h => h) (Or.inr ⟨by rfl, rfl⟩) hS ?_)
    | (refine wpAnyH_take (i := 14) (v := ?_) rfl (by kernel_rfl) (by kernel_rfl) (by kernel_rfl) (fun _ _ _ h => h) (Or.inl ⟨by rfl, ?_⟩) hS ?_
       rotate_left 1
       · (intro w0 hSw; (try dsimp only at hSw); go_split_ands; go_simp; try with_reducible rfl))
    | fail
  try simp only [Act.put, List.getElem_toArray, List.getElem_cons_succ, List.getElem_cons_zero, List.setIfInBounds_toArray, List.set_cons_zero, List.set_cons_succ]
  refine wpAnyH_ready (rs := [10]) (by kernel_rfl) (by simp) ?_
  refine AllReadyH.cons rfl (fun K hK => ?_) AllReadyH.nil
  go_simp
  refine (CC.out _).mono ?_
  rintro e w7 ⟨rfl, hb⟩
  have HB7 := Aside0.mk (below_then HBd.out HBd.out.size hb)
  have HT7 := Aside0.mk (HTd.out.below hb)
  have HX7 := Aside0.mk (HXd.out.below hb)
  have HY7 := Aside0.mk (HYd.out.below hb)
  have HZ7 := Aside0.mk (HZd.out.below hb)
  clear hb hS
  have hS : (fun W : World => (W.cell? ⟨w.heap.size, 0, none⟩ = some (.int .i64 k) ∧ W.cell? ⟨w.heap.size, 1, none⟩ = some (.string t) ∧ W.cell? ⟨w.heap.size, 2, none⟩ = some (.string x)) ∧ (W.cell? ⟨w.heap.size + 1, 0, none⟩ = some (.int .i64 k2) ∧ W.cell? ⟨w.heap.size + 1, 1, none⟩ = some (.string t2) ∧ W.cell? ⟨w.heap.size + 1, 2, none⟩ = some (.string x2)) ∧ (W.cell? ⟨w6.heap.size, 0, none⟩ = some (.int .i64 k) ∧ W.cell? ⟨w6.heap.size, 1, none⟩ = some (.string t) ∧ W.cell? ⟨w6.heap.size, 2, none⟩ = some (.string x))) w7 := ⟨HX7.out, HY7.out, HZ7.out⟩
  refine hK.out _ _ hS (fun _ => ?_)
  clear hK K
  try simp only [Act.put, List.getElem_toArray, List.getElem_cons_succ, List.getElem_cons_zero, List.setIfInBounds_toArray, List.set_cons_zero, List.set_cons_succ]
  first
    | (refine wpAnyH_take (i := 11) (v := undef) rfl (by kernel_rfl) (by kernel_rfl) (by kernel_rfl) (fun _ _ _ h => h) (Or.inr ⟨by rfl, rfl⟩) hS ?_)
    | (refine wpAnyH_take (i := 11) (v := ?_) rfl (by kernel_rfl) (by kernel_rfl) (by kernel_rfl) (fun _ _ _ h => h) (Or.inl ⟨by rfl, ?_⟩) hS ?_
       rotate_left 1
       · (intro w0 hSw; (try dsimp only at hSw); go_split_ands; go_simp; try with_reducible rfl))
    | fail
  try simp only [Act.put, List.getElem_toArray, List.getElem_cons_succ, List.getElem_cons_zero, List.setIfInBounds_toArray, List.set_cons_zero, List.set_cons_succ]
  first
    | (refine wpAnyH_take (i := 15) (v := undef) rfl (by kernel_rfl) (by kernel_rfl) (by kernel_rfl) (fun _ _ _ h => h) (Or.inr ⟨by rfl, rfl⟩) hS ?_)
    | (refine wpAnyH_take (i := 15) (v := ?_) rfl (by kernel_rfl) (by kernel_rfl) (by kernel_rfl) (fun _ _ _ h => h) (Or.inl ⟨by rfl, ?_⟩) hS ?_
       rotate_left 1
       · (intro w0 hSw; (try dsimp only at hSw); go_split_ands; go_simp; try with_reducible rfl))
    | fail
  try simp only [Act.put, List.getElem_toArray, List.getElem_cons_succ, List.getElem_cons_zero, List.setIfInBounds_toArray, List.set_cons_zero, List.set_cons_succ]
  first
    | (refine wpAnyH_take (i := 16) (v := undef) rfl (by kernel_rfl) (by kernel_rfl) (by kernel_rfl) (fun _ _ _ h => h) (Or.inr ⟨by rfl, rfl⟩) hS ?_)
    | (refine wpAnyH_take (i := 16) (v := ?_) rfl (by kernel_rfl) (by kernel_rfl) (by kernel_rfl) (fun _ _ _ h => h) (Or.inl ⟨by rfl, ?_⟩) hS ?_
       rotate_left 1
       · (intro w0 hSw; (try dsimp only at hSw); go_split_ands; go_simp; try with_reducible rfl))
    | fail
  try simp only [Act.put, List.getElem_toArray, List.getElem_cons_succ, List.getElem_cons_zero, List.setIfInBounds_toArray, List.set_cons_zero, List.set_cons_succ]
  first
    | (refine wpAnyH_take (i := 17) (v := undef) rfl (by kernel_rfl) (by kernel_rfl) (by kernel_rfl) (fun _ _ _ h => h) (Or.inr ⟨by rfl, rfl⟩) hS ?_)
    | (refine wpAnyH_take (i := 17) (v := ?_) rfl (by kernel_rfl) (by kernel_rfl) (by kernel_rfl) (fun _ _ _ h => h) (Or.inl ⟨by rfl, ?_⟩) hS ?_
       rotate_left 1
       · (intro w0 hSw; (try dsimp only at hSw); go_split_ands; go_simp; try with_reducible rfl))
    | fail
  try simp only [Act.put, List.getElem_toArray, List.getElem_cons_succ, List.getElem_cons_zero, List.setIfInBounds_toArray, List.set_cons_zero, List.set_cons_succ]
  first
    | (refine wpAnyH_take (i := 18) (v := undef) rfl (by kernel_rfl) (by kernel_rfl) (by kernel_rfl) (fun _ _ _ h => h) (Or.inr ⟨by rfl, rfl⟩) hS ?_)
    | (refine wpAnyH_take (i := 18) (v := ?_) rfl (by kernel_rfl) (by kernel_rfl) (by kernel_rfl) (fun _ _ _ h => h) (Or.inl ⟨by rfl, ?_⟩) hS ?_
       rotate_left 1
       · (intro w0 hSw; (try dsimp only at hSw); go_split_ands; go_simp; try with_reducible rfl))
    | fail
  try simp only [Act.put, List.getElem_toArray, List.getElem_cons_succ, List.getElem_cons_zero, List.setIfInBounds_toArray, List.set_cons_zero, List.set_cons_succ]
  first
    | (refine wpAnyH_take (i := 19) (v := undef) rfl (by kernel_rfl) (by kernel_rfl) (by kernel_rfl) (fun _ _ _ h => h) (Or.inr ⟨by rfl, rfl⟩) hS ?_)
    | (refine wpAnyH_take (i := 19) (v := ?_) rfl (by kernel_rfl) (by kernel_rfl) (by kernel_rfl) (fun _ _ _ h => h) (Or.inl ⟨by rfl, ?_⟩) hS ?_
       rotate_left 1
       · (intro w0 hSw; (try dsimp only at hSw); go_split_ands; go_simp; try with_reducible rfl))
    | fail
  try simp only [Act.put, List.getElem_toArray, List.getElem_cons_succ, List.getElem_cons_zero, List.setIfInBounds_toArray, List.set_cons_zero, List.set_cons_succ]
  first
    | (refine wpAnyH_take (i := 20) (v := undef) rfl (by kernel_rfl) (by kernel_rfl) (by kernel_rfl) (fun _ _ _ h => h) (Or.inr ⟨by rfl, rfl⟩) hS ?_)
    | (refine wpAnyH_take (i := 20) (v := ?_) rfl (by kernel_rfl) (by kernel_rfl) (by kernel_rfl) (fun _ _ _ h => h) (Or.inl ⟨by rfl, ?_⟩) hS ?_
       rotate_left 1
       · (intro w0 hSw; (try dsimp only at hSw); go_split_ands; go_simp; try with_reducible rfl))
    | fail
  try simp only [Act.put, List.getElem_toArray, List.getElem_cons_succ, List.getElem_cons_zero, List.setIfInBounds_toArray, List.set_cons_zero, List.set_cons_succ]
  first
    | (refine wpAnyH_take (i := 21) (v := undef) rfl (by kernel_rfl) (by kernel_rfl) (by kernel_rfl) (fun _ _ _ h => h) (Or.inr ⟨by rfl, rfl⟩) hS ?_)
    | (refine wpAnyH_take (i := 21) (v := ?_) rfl (by kernel_rfl) (by kernel_rfl) (by kernel_rfl) (fun _ _ _ h => h) (Or.inl ⟨by rfl, ?_⟩) hS ?_
       rotate_left 1
       · (intro w0 hSw; (try dsimp only at hSw); go_split_ands; go_simp; try with_reducible rfl))
    | fail
  try simp only [Act.put, List.getElem_toArray, List.getElem_cons_succ, List.getElem_cons_zero, List.setIfInBounds_toArray, List.set_cons_zero, List.set_cons_succ]
  first
    | (refine wpAnyH_take (i := 22) (v := undef) rfl (by kernel_rfl) (by kernel_rfl) (by kernel_rfl) (fun _ _ _ h => h) (Or.inr ⟨by rfl, rfl⟩) hS ?_)
    | (refine wpAnyH_take (i := 22) (v := ?_) rfl (by kernel_rfl) (by kernel_rfl) (by kernel_rfl) (fun _ _ _ h => h) (Or.inl ⟨by rfl, ?_⟩) hS ?_
       rotate_left 1
       · (intro w0 hSw; (try dsimp only at hSw); go_split_ands; go_simp; try with_reducible rfl))
    | fail
  try simp only [Act.put, List.getElem_toArray, List.getElem_cons_succ, List.getElem_cons_zero, List.setIfInBounds_toArray, List.set_cons_zero, List.set_cons_succ]
  first
    | (refine wpAnyH_take (i := 23) (v := undef) rfl (by kernel_rfl) (by kernel_rfl) (by kernel_rfl) (fun _ _ _ h => h) (Or.inr ⟨by rfl, rfl⟩) hS ?_)
    | (refine wpAnyH_take (i := 23) (v := ?_) rfl (by kernel_rfl) (by kernel_rfl) (by kernel_rfl) (fun _ _ _ h => h) (Or.inl ⟨by rfl, ?_⟩) hS ?_
       rotate_left 1
       · (intro w0 hSw; (try dsimp only at hSw); go_split_ands; go_simp; try with_reducible rfl))
    | fail
  try simp only [Act.put, List.getElem_toArray, List.getElem_cons_succ, List.getElem_cons_zero, List.setIfInBounds_toArray, List.set_cons_zero, List.set_cons_succ]
  first
    | (refine wpAnyH_take (i := 24) (v := undef) rfl (by kernel_rfl) (by kernel_rfl) (by kernel_rfl) (fun _ _ _ h => h) (Or.inr ⟨by rfl, rfl⟩) hS ?_)
    | (refine wpAnyH_take (i := 24) (v := ?_) rfl (by kernel_rfl) (by kernel_rfl) (by kernel_rfl) (fun _ _ _ h => h) (Or.inl ⟨by rfl, ?_⟩) hS ?_
       rotate_left 1
       · (intro w0 hSw; (try dsimp only at hSw); go_split_ands; go_simp; try with_reducible rfl))
    | fail
  try simp only [Act.put, List.getElem_toArray, List.getElem_cons_succ, List.getElem_cons_zero, List.setIfInBounds_toArray, List.set_cons_zero, List.set_cons_succ]
  first
    | (refine wpAnyH_take (i := 25) (v := undef) rfl (by kernel_rfl) (by kernel_rfl) (by kernel_rfl) (fun _ _ _ h => h) (Or.inr ⟨by rfl, rfl⟩) hS ?_)
    | (refine wpAnyH_take (i := 25) (v := ?_) rfl (by kernel_rfl) (by kernel_rfl) (by kernel_rfl) (fun _ _ _ h => h) (Or.inl ⟨by rfl, ?_⟩) hS ?_
       rotate_left 1
       · (intro w0 hSw; (try dsimp only at hSw); go_split_ands; go_simp; try with_reducible rfl))
    | fail
  try simp only [Act.put, List.getElem_toArray, List.getElem_cons_succ, List.getElem_cons_zero, List.setIfInBounds_toArray, List.set_cons_zero, List.set_cons_succ]
  first
    | (refine wpAnyH_take (i := 26) (v := undef) rfl (by kernel_rfl) (by kernel_rfl) (by kernel_rfl) (fun _ _ _ h => h) (Or.inr ⟨by rfl, rfl⟩) hS ?_)
    | (refine wpAnyH_take (i := 26) (v := ?_) rfl (by kernel_rfl) (by kernel_rfl) (by kernel_rfl) (fun _ _ _ h => h) (Or.inl ⟨by rfl, ?_⟩) hS ?_
       rotate_left 1
       · (intro w0 hSw; (try dsimp only at hSw); go_split_ands; go_simp; try with_reducible rfl))
    | fail
  try simp only [Act.put, List.getElem_toArray, List.getElem_cons_succ, List.getElem_cons_zero, List.setIfInBounds_toArray, List.set_cons_zero, List.set_cons_succ]
  first
    | (refine wpAnyH_take (i := 27) (v := undef) rfl (by kernel_rfl) (by kernel_rfl) (by kernel_rfl) (fun _ _ _ h => h) (Or.inr ⟨by rfl, rfl⟩) hS ?_)
    | (refine wpAnyH_take (i := 27) (v := ?_) rfl (by kernel_rfl) (by kernel_rfl) (by kernel_rfl) (fun _ _ _ h => h) (Or.inl ⟨by rfl, ?_⟩) hS ?_
       rotate_left 1
       · (intro w0 hSw; (try dsimp only at hSw); go_split_ands; go_simp; try with_reducible rfl))
    | fail
  try simp only [Act.put, List.getElem_toArray, List.getElem_cons_succ, List.getElem_cons_zero, List.setIfInBounds_toArray, List.set_cons_zero, List.set_cons_succ]
  first
    | (refine wpAnyH_take (i := 28) (v := undef) rfl (by kernel_rfl) (by kernel_rfl) (by kernel_rfl) (fun _ _ _ h => h) (Or.inr ⟨by rfl, rfl⟩) hS ?_)
    | (refine wpAnyH_take (i := 28) (v := ?_) rfl (by kernel_rfl) (by kernel_rfl) (by kernel_rfl) (fun _ _ _ h => h) (Or.inl ⟨by rfl, ?_⟩) hS ?_
       rotate_left 1
       · (intro w0 hSw; (try dsimp only at hSw); go_split_ands; go_simp; try with_reducible rfl))
    | fail
  try simp only [Act.put, List.getElem_toArray, List.getElem_cons_succ, List.getElem_cons_zero, List.setIfInBounds_toArray, List.set_cons_zero, List.set_cons_succ]
  first
    | (refine wpAnyH_take (i := 29) (v := undef) rfl (by kernel_rfl) (by kernel_rfl) (by kernel_rfl) (fun _ _ _ h => h) (Or.inr ⟨by rfl, rfl⟩) hS ?_)
    | (refine wpAnyH_take (i := 29) (v := ?_) rfl (by kernel_rfl) (by kernel_rfl) (by kernel_rfl) (fun _ _ _ h => h) (Or.inl ⟨by rfl, ?_⟩) hS ?_
       rotate_left 1
       · (intro w0 hSw; (try dsimp only at hSw); go_split_ands; go_simp; try with_reducible rfl))
    | fail
  try simp only [Act.put, List.getElem_toArray, List.getElem_cons_succ, List.getElem_cons_zero, List.setIfInBounds_toArray, List.set_cons_zero, List.set_cons_succ]
  first
    | (refine wpAnyH_take (i := 30) (v := undef) rfl (by kernel_rfl) (by kernel_rfl) (by kernel_rfl) (fun _ _ _ h => h) (Or.inr ⟨by rfl, rfl⟩) hS ?_)
    | (refine wpAnyH_take (i := 30) (v := ?_) rfl (by kernel_rfl) (by kernel_rfl) (by kernel_rfl) (fun _ _ _ h => h) (Or.inl ⟨by rfl, ?_⟩) hS ?_
       rotate_left 1
       · (intro w0 hSw; (try dsimp only at hSw); go_split_ands; go_simp; try with_reducible rfl))
    | fail
  try simp only [Act.put, List.getElem_toArray, List.getElem_cons_succ, List.getElem_cons_zero, List.setIfInBounds_toArray, List.set_cons_zero, List.set_cons_succ]
  refine wpAnyH_ready (rs := [31]) (by kernel_rfl) (by simp) ?_
  refine AllReadyH.cons rfl (fun K hK => ?_) AllReadyH.nil
  go_simp
  refine (CK.out _ HT7.out).mono ?_
  rintro e w8 ⟨rfl, hb⟩
  have HB8 := Aside0.mk (below_then HB7.out HB7.out.size hb)
  have HX8 := Aside0.mk (HX7.out.below hb)
  have HY8 := Aside0.mk (HY7.out.below hb)
  have HZ8 := Aside0.mk (HZ7.out.below hb)
  clear hb hS
  have hS : (fun W : World => (W.cell? ⟨w.heap.size, 0, none⟩ = some (.int .i64 k) ∧ W.cell? ⟨w.heap.size, 1, none⟩ = some (.string t) ∧ W.cell? ⟨w.heap.size, 2, none⟩ = some (.string x)) ∧ (W.cell? ⟨w.heap.size + 1, 0, none⟩ = some (.int .i64 k2) ∧ W.cell? ⟨w.heap.size + 1, 1, none⟩ = some (.string t2) ∧ W.cell? ⟨w.heap.size + 1, 2, none⟩ = some (.string x2)) ∧ (W.cell? ⟨w6.heap.size, 0, none⟩ = some (.int .i64 k) ∧ W.cell? ⟨w6.heap.size, 1, none⟩ = some (.string t) ∧ W.cell? ⟨w6.heap.size, 2, none⟩ = some (.string x))) w8 := ⟨HX8.out, HY8.out, HZ8.out⟩
  refine hK.out _ _ hS (fun _ => ?_)
  clear hK K
  try simp only [Act.put, List.getElem_toArray, List.getElem_cons_succ, List.getElem_cons_zero, List.setIfInBounds_toArray, List.set_cons_zero, List.set_cons_succ]
  first
    | (refine wpAnyH_take (i := 32) (v := undef) rfl (by kernel_rfl) (by kernel_rfl) (by kernel_rfl) (fun _ _ _ h => h) (Or.inr ⟨by rfl, rfl⟩) hS ?_)
    | (refine wpAnyH_take (i := 32) (v := ?_) rfl (by kernel_rfl) (by kernel_rfl) (by kernel_rfl) (fun _ _ _ h => h) (Or.inl ⟨by rfl, ?_⟩) hS ?_
       rotate_left 1
       · (intro w0 hSw; (try dsimp only at hSw); go_split_ands; go_simp; try with_reducible rfl))
    | fail
  try simp only [Act.put, List.getElem_toArray, List.getElem_cons_succ, List.getElem_cons_zero, List.setIfInBounds_toArray, List.set_cons_zero, List.set_cons_succ]
  first
    | (refine wpAnyH_take (i := 33) (v := undef) rfl (by kernel_rfl) (by kernel_rfl) (by kernel_rfl) (fun _ _ _ h => h) (Or.inr ⟨by rfl, rfl⟩) hS ?_)
    | (refine wpAnyH_take (i := 33) (v := ?_) rfl (by kernel_rfl) (by kernel_rfl) (by kernel_rfl) (fun _ _ _ h => h) (Or.inl ⟨by rfl, ?_⟩) hS ?_
       rotate_left 1
       · (intro w0 hSw; (try dsimp only at hSw); go_split_ands; go_simp; try with_reducible rfl))
    | fail
  try simp only [Act.put, List.getElem_toArray, List.getElem_cons_succ, List.getElem_cons_zero, List.setIfInBounds_toArray, List.set_cons_zero, List.set_cons_succ]
  refine wpAnyH_done (by kernel_rfl) ?_ _
  go_wp2_with fail
  go_ret
  exact ⟨rfl, HB8.out⟩
theorem one_law (a a2 : Trm) (w : World) (hT : Tabs w) :
    Calls Tryd.prog 7 #[a.val, a2.val] w fun e w' => e = .returned (.bool true) ∧ Below w.heap.size w w' := by
  obtain ⟨k, t, x⟩ := a
  obtain ⟨k2, t2, x2⟩ := a2
  unfold Trm.val
  simp only
  cases hl : longT ⟨k, t, x⟩ with
  | true => exact one_long k t x k2 t2 x2 w hT (by rw [hl]; rfl)
  | false =>
    cases hl2 : longT ⟨k2, t2, x2⟩ with
    | true => exact one_long k t x k2 t2 x2 w hT (by rw [hl2]; simp)
    | false =>
      cases hok : isB ⟨k, t, x⟩ with
      | false => exact one_no1 k t x k2 t2 x2 w hT hl hl2 hok
      | true =>
        cases hok2 : isB ⟨k2, t2, x2⟩ with
        | false => exact one_no2 k t x k2 t2 x2 w hT hl hl2 hok hok2
        | true => exact one_main k t x k2 t2 x2 w hT hl hl2 hok hok2 _ _ rfl rfl _ rfl _ rfl
end Go.Proofs.YtmenjcjpihpjjaaDoor.Tm
