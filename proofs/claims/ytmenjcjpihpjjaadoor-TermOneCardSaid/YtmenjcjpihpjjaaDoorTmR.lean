/- The walk of the reference's Show. -/
import Derived.Test.YtmenjcjpihpjjaaDoorTmQ
set_option linter.unusedSimpArgs false
set_option linter.unusedVariables false
namespace Go.Proofs.YtmenjcjpihpjjaaDoor.Tm
open Go Go.RowKit Go.Shelf Go.Proofs.YtmenjcjpihpjjaaDoorW.PrintWords

theorem esc_len (s : ByteArray) (hs : s.size ≤ 1000) : (⟨(qL (lst s)).toArray⟩ : ByteArray).size ≤ 6000 := by
  have h := qL_len (lst s)
  have h2 : (lst s).length = s.size := size_list s
  have : (qL (lst s)).length ≤ 6000 := by omega
  simpa [ByteArray.size] using this
set_option maxRecDepth 100000 in
set_option maxHeartbeats 4000000 in
theorem refShow_1 (t x : ByteArray) (w : World) (ht : t.size ≤ 1000) (hx : x.size ≤ 1000) :
    Calls Tryd.prog 26 #[.agg #[.int .i64 1, .string t, .string x]] w fun e w' => e = .returned (.string (showS ⟨1, t, x⟩)) ∧ Below w.heap.size w w' := by
  obtain ⟨wb, hwb, HB0⟩ := boxT w 1 t x
  have HX0 : Aside0 (BoxedT wb w.heap.size 1 t x) := ⟨by rw [hwb]; exact BoxedT.new w 1 t x _⟩
  have CE := Aside0.mk (fun W => refEsc_any t W ht)
  have hqs := esc_len t ht
  obtain ⟨q, hq⟩ : ∃ q : ByteArray, q = ⟨(qL (lst t)).toArray⟩ := ⟨_, rfl⟩
  rw [← hq] at CE hqs
  have HS : Aside0 ((⟨#[60]⟩ : ByteArray) ++ t ++ (⟨#[62]⟩ : ByteArray) = showS ⟨1, t, x⟩) := ⟨by 
    conv => lhs; rw [ba_lst t]
    exact (congrArg (· ++ (⟨#[62]⟩ : ByteArray)) (ba_app [60] (lst t))).trans (ba_app ([60] ++ lst t) [62])⟩
  rw [hwb] at HB0 HX0
  obtain ⟨x0, x1, x2⟩ := HX0.out
  clear hwb hq
  go_enter Tryd.func26, Tryd.ntmps26
  go_wp2_with (go_at_call 58; (with_reducible refine (CE.out _).mono ?_); rintro e w1 ⟨rfl, hb⟩; have HB1 := Aside0.mk (below_then HB0.out HB0.out.size hb); obtain ⟨y0, y1, y2⟩ := HX0.out.below hb; clear hb)
  go_ret
  exact ⟨ret_str HS.out, HB0.out⟩
set_option maxRecDepth 100000 in
set_option maxHeartbeats 4000000 in
theorem refShow_2 (t x : ByteArray) (w : World) (ht : t.size ≤ 1000) (hx : x.size ≤ 1000) :
    Calls Tryd.prog 26 #[.agg #[.int .i64 2, .string t, .string x]] w fun e w' => e = .returned (.string (showS ⟨2, t, x⟩)) ∧ Below w.heap.size w w' := by
  obtain ⟨wb, hwb, HB0⟩ := boxT w 2 t x
  have HX0 : Aside0 (BoxedT wb w.heap.size 2 t x) := ⟨by rw [hwb]; exact BoxedT.new w 2 t x _⟩
  have CE := Aside0.mk (fun W => refEsc_any t W ht)
  have hqs := esc_len t ht
  obtain ⟨q, hq⟩ : ∃ q : ByteArray, q = ⟨(qL (lst t)).toArray⟩ := ⟨_, rfl⟩
  rw [← hq] at CE hqs
  have HS : Aside0 ((⟨#[95, 58]⟩ : ByteArray) ++ t = showS ⟨2, t, x⟩) := ⟨by 
    conv => lhs; rw [ba_lst t]
    exact ba_app [95, 58] (lst t)⟩
  rw [hwb] at HB0 HX0
  obtain ⟨x0, x1, x2⟩ := HX0.out
  clear hwb hq
  go_enter Tryd.func26, Tryd.ntmps26
  go_wp2_with (go_at_call 58; (with_reducible refine (CE.out _).mono ?_); rintro e w1 ⟨rfl, hb⟩; have HB1 := Aside0.mk (below_then HB0.out HB0.out.size hb); obtain ⟨y0, y1, y2⟩ := HX0.out.below hb; clear hb)
  go_ret
  exact ⟨ret_str HS.out, HB0.out⟩
set_option maxRecDepth 100000 in
set_option maxHeartbeats 4000000 in
theorem refShow_4 (t x : ByteArray) (w : World) (ht : t.size ≤ 1000) (hx : x.size ≤ 1000) :
    Calls Tryd.prog 26 #[.agg #[.int .i64 4, .string t, .string x]] w fun e w' => e = .returned (.string (showS ⟨4, t, x⟩)) ∧ Below w.heap.size w w' := by
  obtain ⟨wb, hwb, HB0⟩ := boxT w 4 t x
  have HX0 : Aside0 (BoxedT wb w.heap.size 4 t x) := ⟨by rw [hwb]; exact BoxedT.new w 4 t x _⟩
  have CE := Aside0.mk (fun W => refEsc_any t W ht)
  have hqs := esc_len t ht
  obtain ⟨q, hq⟩ : ∃ q : ByteArray, q = ⟨(qL (lst t)).toArray⟩ := ⟨_, rfl⟩
  rw [← hq] at CE hqs
  have HS : Aside0 ((⟨#[34]⟩ : ByteArray) ++ q ++ (⟨#[34]⟩ : ByteArray) ++ (⟨#[64]⟩ : ByteArray) ++ x = showS ⟨4, t, x⟩) := ⟨by 
    rw [hq, ba_quote]
    conv => lhs; rw [ba_lst x]
    exact (congrArg (· ++ (⟨(lst x).toArray⟩ : ByteArray)) (ba_app (quoteL (lst t)) [64])).trans (ba_app (quoteL (lst t) ++ [64]) (lst x))⟩
  rw [hwb] at HB0 HX0
  obtain ⟨x0, x1, x2⟩ := HX0.out
  clear hwb hq
  go_enter Tryd.func26, Tryd.ntmps26
  go_wp2_with (go_at_call 58; (with_reducible refine (CE.out _).mono ?_); rintro e w1 ⟨rfl, hb⟩; have HB1 := Aside0.mk (below_then HB0.out HB0.out.size hb); obtain ⟨y0, y1, y2⟩ := HX0.out.below hb; clear hb)
  go_ret
  exact ⟨ret_str HS.out, HB1.out⟩
set_option maxRecDepth 100000 in
set_option maxHeartbeats 4000000 in
theorem refShow_5 (t x : ByteArray) (w : World) (ht : t.size ≤ 1000) (hx : x.size ≤ 1000) :
    Calls Tryd.prog 26 #[.agg #[.int .i64 5, .string t, .string x]] w fun e w' => e = .returned (.string (showS ⟨5, t, x⟩)) ∧ Below w.heap.size w w' := by
  obtain ⟨wb, hwb, HB0⟩ := boxT w 5 t x
  have HX0 : Aside0 (BoxedT wb w.heap.size 5 t x) := ⟨by rw [hwb]; exact BoxedT.new w 5 t x _⟩
  have CE := Aside0.mk (fun W => refEsc_any t W ht)
  have hqs := esc_len t ht
  obtain ⟨q, hq⟩ : ∃ q : ByteArray, q = ⟨(qL (lst t)).toArray⟩ := ⟨_, rfl⟩
  rw [← hq] at CE hqs
  have HS : Aside0 ((⟨#[34]⟩ : ByteArray) ++ q ++ (⟨#[34]⟩ : ByteArray) ++ (⟨#[94, 94, 60]⟩ : ByteArray) ++ x ++ (⟨#[62]⟩ : ByteArray) = showS ⟨5, t, x⟩) := ⟨by 
    rw [hq, ba_quote]
    conv => lhs; rw [ba_lst x]
    exact (congrArg (· ++ (⟨#[62]⟩ : ByteArray)) ((congrArg (· ++ (⟨(lst x).toArray⟩ : ByteArray)) (ba_app (quoteL (lst t)) [94, 94, 60])).trans (ba_app (quoteL (lst t) ++ [94, 94, 60]) (lst x)))).trans (ba_app (quoteL (lst t) ++ [94, 94, 60] ++ lst x) [62])⟩
  rw [hwb] at HB0 HX0
  obtain ⟨x0, x1, x2⟩ := HX0.out
  clear hwb hq
  go_enter Tryd.func26, Tryd.ntmps26
  go_wp2_with (go_at_call 58; (with_reducible refine (CE.out _).mono ?_); rintro e w1 ⟨rfl, hb⟩; have HB1 := Aside0.mk (below_then HB0.out HB0.out.size hb); obtain ⟨y0, y1, y2⟩ := HX0.out.below hb; clear hb)
  go_ret
  exact ⟨ret_str HS.out, HB1.out⟩
set_option maxRecDepth 100000 in
set_option maxHeartbeats 4000000 in
theorem refShow_0 (k : Int) (t x : ByteArray) (w : World) (ht : t.size ≤ 1000) (hx : x.size ≤ 1000) (h1 : (k == 1) = false) (h2 : (k == 2) = false) (h4 : (k == 4) = false) (h5 : (k == 5) = false) :
    Calls Tryd.prog 26 #[.agg #[.int .i64 k, .string t, .string x]] w fun e w' => e = .returned (.string (showS ⟨k, t, x⟩)) ∧ Below w.heap.size w w' := by
  obtain ⟨wb, hwb, HB0⟩ := boxT w k t x
  have HX0 : Aside0 (BoxedT wb w.heap.size k t x) := ⟨by rw [hwb]; exact BoxedT.new w k t x _⟩
  have CE := Aside0.mk (fun W => refEsc_any t W ht)
  have hqs := esc_len t ht
  obtain ⟨q, hq⟩ : ∃ q : ByteArray, q = ⟨(qL (lst t)).toArray⟩ := ⟨_, rfl⟩
  rw [← hq] at CE hqs
  have HS : Aside0 ((⟨#[34]⟩ : ByteArray) ++ q ++ (⟨#[34]⟩ : ByteArray) = showS ⟨k, t, x⟩) := ⟨by 
    rw [hq, ba_quote]
    unfold showS showL
    rw [if_neg (by simpa using h1), if_neg (by simpa using h2), if_neg (by simpa using h4), if_neg (by simpa using h5)]
    rfl⟩
  rw [hwb] at HB0 HX0
  obtain ⟨x0, x1, x2⟩ := HX0.out
  clear hwb hq
  go_enter Tryd.func26, Tryd.ntmps26
  go_wp2_with (go_at_call 58; (with_reducible refine (CE.out _).mono ?_); rintro e w1 ⟨rfl, hb⟩; have HB1 := Aside0.mk (below_then HB0.out HB0.out.size hb); obtain ⟨y0, y1, y2⟩ := HX0.out.below hb; clear hb)
  go_ret
  exact ⟨ret_str HS.out, HB1.out⟩
theorem refShow_any (a : Trm) (w : World) (ht : a.t.size ≤ 1000) (hx : a.x.size ≤ 1000) : Calls Tryd.prog 26 #[a.val] w fun e w' => e = .returned (.string (showS a)) ∧ Below w.heap.size w w' := by
  obtain ⟨k, t, x⟩ := a
  unfold Trm.val
  by_cases h1 : k = 1
  · subst h1; exact refShow_1 t x w ht hx
  by_cases h2 : k = 2
  · subst h2; exact refShow_2 t x w ht hx
  by_cases h4 : k = 4
  · subst h4; exact refShow_4 t x w ht hx
  by_cases h5 : k = 5
  · subst h5; exact refShow_5 t x w ht hx
  exact refShow_0 k t x w ht hx (by simpa using h1) (by simpa using h2) (by simpa using h4) (by simpa using h5)
end Go.Proofs.YtmenjcjpihpjjaaDoor.Tm
