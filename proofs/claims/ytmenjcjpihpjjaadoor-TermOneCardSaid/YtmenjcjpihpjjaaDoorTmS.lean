/- The walk of term.Show. -/
import Derived.Test.YtmenjcjpihpjjaaDoorTmN
import Derived.Deep.RegionHeld3
set_option linter.unusedSimpArgs false
set_option linter.unusedVariables false
namespace Go.Proofs.YtmenjcjpihpjjaaDoor.Tm
open Go Go.RowKit Go.Shelf Go.Proofs.YtmenjcjpihpjjaaDoorW.PrintWords

def lst (s : ByteArray) : List UInt8 := s.data.toList
/-- A term as a text. -/
def showL (a : Trm) : List UInt8 :=
  if a.k = 1 then [60] ++ lst a.t ++ [62] else if a.k = 2 then [95, 58] ++ lst a.t else if a.k = 4 then quoteL (lst a.t) ++ [64] ++ lst a.x else if a.k = 5 then quoteL (lst a.t) ++ [94, 94, 60] ++ lst a.x ++ [62] else quoteL (lst a.t)
def showS (a : Trm) : ByteArray := ⟨(showL a).toArray⟩
theorem ba_lst (s : ByteArray) : s = ⟨(lst s).toArray⟩ := by
  apply ByteArray.ext; unfold lst; simp
theorem ba_app (a b : List UInt8) : (⟨a.toArray⟩ : ByteArray) ++ ⟨b.toArray⟩ = ⟨(a ++ b).toArray⟩ := by
  apply ByteArray.ext
  rw [ByteArray.data_append]
  simp
theorem quote_len (s : ByteArray) (hs : s.size ≤ 1000) : (⟨(quoteL (lst s)).toArray⟩ : ByteArray).size ≤ 6002 := by
  have h := qL_len (lst s)
  have h2 : (lst s).length = s.size := size_list s
  have : (quoteL (lst s)).length ≤ 6002 := by unfold quoteL; rw [List.length_cons, List.length_append]; simp; omega
  simpa [ByteArray.size] using this
set_option maxRecDepth 100000 in
set_option maxHeartbeats 4000000 in
theorem show_1 (t x : ByteArray) (w : World) (ht : t.size ≤ 1000) (hx : x.size ≤ 1000) :
    Calls Tryd.prog 12 #[.agg #[.int .i64 1, .string t, .string x]] w fun e w' => e = .returned (.string (showS ⟨1, t, x⟩)) ∧ Below w.heap.size w w' := by
  obtain ⟨wb, hwb, HB0⟩ := boxT w 1 t x
  have HX0 : Aside0 (BoxedT wb w.heap.size 1 t x) := ⟨by rw [hwb]; exact BoxedT.new w 1 t x _⟩
  have CQ := Aside0.mk (fun W => quoted_any t W ht)
  obtain ⟨q, hq⟩ : ∃ q : ByteArray, q = ⟨(quoteL t.data.toList).toArray⟩ := ⟨_, rfl⟩
  have hqs : q.size ≤ 6002 := by rw [hq]; exact quote_len t ht
  rw [← hq] at CQ
  have HS : Aside0 ((⟨#[60]⟩ : ByteArray) ++ t ++ ⟨#[62]⟩ = showS ⟨1, t, x⟩) := ⟨by
    conv => lhs; rw [ba_lst t]
    exact (congrArg (· ++ (⟨#[62]⟩ : ByteArray)) (ba_app [60] (lst t))).trans (ba_app ([60] ++ lst t) [62])⟩
  rw [hwb] at HB0 HX0
  clear hwb hq
  go_enter Tryd.func12, Tryd.ntmps12
  go_wp2_with fail
  go_ret
  exact ⟨ret_str HS.out, HB0.out⟩
set_option maxRecDepth 100000 in
set_option maxHeartbeats 4000000 in
theorem show_2 (t x : ByteArray) (w : World) (ht : t.size ≤ 1000) (hx : x.size ≤ 1000) :
    Calls Tryd.prog 12 #[.agg #[.int .i64 2, .string t, .string x]] w fun e w' => e = .returned (.string (showS ⟨2, t, x⟩)) ∧ Below w.heap.size w w' := by
  obtain ⟨wb, hwb, HB0⟩ := boxT w 2 t x
  have HX0 : Aside0 (BoxedT wb w.heap.size 2 t x) := ⟨by rw [hwb]; exact BoxedT.new w 2 t x _⟩
  have CQ := Aside0.mk (fun W => quoted_any t W ht)
  obtain ⟨q, hq⟩ : ∃ q : ByteArray, q = ⟨(quoteL t.data.toList).toArray⟩ := ⟨_, rfl⟩
  have hqs : q.size ≤ 6002 := by rw [hq]; exact quote_len t ht
  rw [← hq] at CQ
  have HS : Aside0 ((⟨#[95, 58]⟩ : ByteArray) ++ t = showS ⟨2, t, x⟩) := ⟨by
    conv => lhs; rw [ba_lst t]
    exact ba_app [95, 58] (lst t)⟩
  rw [hwb] at HB0 HX0
  clear hwb hq
  go_enter Tryd.func12, Tryd.ntmps12
  go_wp2_with fail
  go_ret
  exact ⟨ret_str HS.out, HB0.out⟩
set_option maxRecDepth 100000 in
set_option maxHeartbeats 4000000 in
theorem show_4 (t x : ByteArray) (w : World) (ht : t.size ≤ 1000) (hx : x.size ≤ 1000) :
    Calls Tryd.prog 12 #[.agg #[.int .i64 4, .string t, .string x]] w fun e w' => e = .returned (.string (showS ⟨4, t, x⟩)) ∧ Below w.heap.size w w' := by
  obtain ⟨wb, hwb, HB0⟩ := boxT w 4 t x
  have HX0 : Aside0 (BoxedT wb w.heap.size 4 t x) := ⟨by rw [hwb]; exact BoxedT.new w 4 t x _⟩
  have CQ := Aside0.mk (fun W => quoted_any t W ht)
  obtain ⟨q, hq⟩ : ∃ q : ByteArray, q = ⟨(quoteL t.data.toList).toArray⟩ := ⟨_, rfl⟩
  have hqs : q.size ≤ 6002 := by rw [hq]; exact quote_len t ht
  rw [← hq] at CQ
  have HS : Aside0 (q ++ (⟨#[64]⟩ : ByteArray) ++ x = showS ⟨4, t, x⟩) := ⟨by
    rw [hq]
    conv => lhs; rw [ba_lst x]
    exact (congrArg (· ++ (⟨(lst x).toArray⟩ : ByteArray)) (ba_app (quoteL (lst t)) [64])).trans (ba_app (quoteL (lst t) ++ [64]) (lst x))⟩
  rw [hwb] at HB0 HX0
  clear hwb hq
  have hxs : x.size ≤ 1000 := hx
  have a1 : ¬ 9223372036854775807 < q.size + 1 := by omega
  have a2 : ¬ 9223372036854775807 < (q ++ (⟨#[64]⟩ : ByteArray)).size + x.size := by rw [ByteArray.size_append]; have : (⟨#[64]⟩ : ByteArray).size = 1 := rfl; omega
  have b2 : ¬ 9223372036854775807 < q.size + 1 + x.size := by omega
  go_enter Tryd.func12, Tryd.ntmps12
  go_upto_region 7 with (fail)
  generalize hwb2 : w.alloc (.cells #[.int .i64 4, .string t, .string x] 24) = wb2 at *
  have HB2 := Aside0.mk (below_drew HB0.out)
  have HX2 : Aside0 (BoxedT wb2.drew w.heap.size 4 t x) := ⟨HX0.out⟩
  clear hwb2
  have hS : (fun W : World => W.cell? ⟨w.heap.size, 0, none⟩ = some (.int .i64 4) ∧ W.cell? ⟨w.heap.size, 1, none⟩ = some (.string t) ∧ W.cell? ⟨w.heap.size, 2, none⟩ = some (.string x)) wb2.drew := HX2.out
  refine wp_region_held (S := (fun W : World => W.cell? ⟨w.heap.size, 0, none⟩ = some (.int .i64 4) ∧ W.cell? ⟨w.heap.size, 1, none⟩ = some (.string t) ∧ W.cell? ⟨w.heap.size, 2, none⟩ = some (.string x))) (by kernel_rfl) ?_
  change wpAnyH _ _ _ _ _ _ _ _ wb2.drew
  first
    | (refine wpAnyH_take (i := 0) (v := undef) rfl (by kernel_rfl) (by kernel_rfl) (by kernel_rfl) (fun _ _ _ h => h) (Or.inr ⟨by rfl, rfl⟩) hS ?_)
    | (refine wpAnyH_take (i := 0) (v := ?_) rfl (by kernel_rfl) (by kernel_rfl) (by kernel_rfl) (fun _ _ _ h => h) (Or.inl ⟨by rfl, ?_⟩) hS ?_
       rotate_left 1
       · (intro w0 hSw; (try dsimp only at hSw); go_split_ands; go_simp; try with_reducible rfl))
    | fail
  try simp only [Act.put, List.getElem_toArray, List.getElem_cons_succ, List.getElem_cons_zero, List.setIfInBounds_toArray, List.set_cons_zero, List.set_cons_succ]
  first
    | (refine wpAnyH_take (i := 1) (v := undef) rfl (by kernel_rfl) (by kernel_rfl) (by kernel_rfl) (fun _ _ _ h => h) (Or.inr ⟨by rfl, rfl⟩) hS ?_)
    | (refine wpAnyH_take (i := 1) (v := ?_) rfl (by kernel_rfl) (by kernel_rfl) (by kernel_rfl) (fun _ _ _ h => h) (Or.inl ⟨by rfl, ?_⟩) hS ?_
       rotate_left 1
       · (intro w0 hSw; (try dsimp only at hSw); go_split_ands; go_simp; try with_reducible rfl))
    | fail
  try simp only [Act.put, List.getElem_toArray, List.getElem_cons_succ, List.getElem_cons_zero, List.setIfInBounds_toArray, List.set_cons_zero, List.set_cons_succ]
  first
    | (refine wpAnyH_take (i := 4) (v := undef) rfl (by kernel_rfl) (by kernel_rfl) (by kernel_rfl) (fun _ _ _ h => h) (Or.inr ⟨by rfl, rfl⟩) hS ?_)
    | (refine wpAnyH_take (i := 4) (v := ?_) rfl (by kernel_rfl) (by kernel_rfl) (by kernel_rfl) (fun _ _ _ h => h) (Or.inl ⟨by rfl, ?_⟩) hS ?_
       rotate_left 1
       · (intro w0 hSw; (try dsimp only at hSw); go_split_ands; go_simp; try with_reducible rfl))
    | fail
  try simp only [Act.put, List.getElem_toArray, List.getElem_cons_succ, List.getElem_cons_zero, List.setIfInBounds_toArray, List.set_cons_zero, List.set_cons_succ]
  first
    | (refine wpAnyH_take (i := 5) (v := undef) rfl (by kernel_rfl) (by kernel_rfl) (by kernel_rfl) (fun _ _ _ h => h) (Or.inr ⟨by rfl, rfl⟩) hS ?_)
    | (refine wpAnyH_take (i := 5) (v := ?_) rfl (by kernel_rfl) (by kernel_rfl) (by kernel_rfl) (fun _ _ _ h => h) (Or.inl ⟨by rfl, ?_⟩) hS ?_
       rotate_left 1
       · (intro w0 hSw; (try dsimp only at hSw); go_split_ands; go_simp; try with_reducible rfl))
    | fail
  try simp only [Act.put, List.getElem_toArray, List.getElem_cons_succ, List.getElem_cons_zero, List.setIfInBounds_toArray, List.set_cons_zero, List.set_cons_succ]
  refine wpAnyH_ready (rs := [2]) (by kernel_rfl) (by simp) ?_
  refine AllReadyH.cons rfl (fun K hK => ?_) AllReadyH.nil
  go_simp
  refine (CQ.out _).mono ?_
  rintro e w3 ⟨rfl, hb⟩
  have HB3 := Aside0.mk (below_then HB2.out HB2.out.size hb)
  have HX3 := Aside0.mk (HX2.out.below hb)
  clear hb hS
  have hS : (fun W : World => W.cell? ⟨w.heap.size, 0, none⟩ = some (.int .i64 4) ∧ W.cell? ⟨w.heap.size, 1, none⟩ = some (.string t) ∧ W.cell? ⟨w.heap.size, 2, none⟩ = some (.string x)) w3 := HX3.out
  refine hK.out _ _ hS (fun _ => ?_)
  clear hK K
  try simp only [Act.put, List.getElem_toArray, List.getElem_cons_succ, List.getElem_cons_zero, List.setIfInBounds_toArray, List.set_cons_zero, List.set_cons_succ]
  first
    | (refine wpAnyH_take (i := 3) (v := undef) rfl (by kernel_rfl) (by kernel_rfl) (by kernel_rfl) (fun _ _ _ h => h) (Or.inr ⟨by rfl, rfl⟩) hS ?_)
    | (refine wpAnyH_take (i := 3) (v := ?_) rfl (by kernel_rfl) (by kernel_rfl) (by kernel_rfl) (fun _ _ _ h => h) (Or.inl ⟨by rfl, ?_⟩) hS ?_
       rotate_left 1
       · (intro w0 hSw; (try dsimp only at hSw); go_split_ands; go_simp; try with_reducible rfl))
    | fail
  try simp only [Act.put, List.getElem_toArray, List.getElem_cons_succ, List.getElem_cons_zero, List.setIfInBounds_toArray, List.set_cons_zero, List.set_cons_succ]
  first
    | (refine wpAnyH_take (i := 6) (v := undef) rfl (by kernel_rfl) (by kernel_rfl) (by kernel_rfl) (fun _ _ _ h => h) (Or.inr ⟨by rfl, rfl⟩) hS ?_)
    | (refine wpAnyH_take (i := 6) (v := ?_) rfl (by kernel_rfl) (by kernel_rfl) (by kernel_rfl) (fun _ _ _ h => h) (Or.inl ⟨by rfl, ?_⟩) hS ?_
       rotate_left 1
       · (intro w0 hSw; (try dsimp only at hSw); go_split_ands; go_simp; try with_reducible rfl))
    | fail
  try simp only [Act.put, List.getElem_toArray, List.getElem_cons_succ, List.getElem_cons_zero, List.setIfInBounds_toArray, List.set_cons_zero, List.set_cons_succ]
  first
    | (refine wpAnyH_take (i := 7) (v := undef) rfl (by kernel_rfl) (by kernel_rfl) (by kernel_rfl) (fun _ _ _ h => h) (Or.inr ⟨by rfl, rfl⟩) hS ?_)
    | (refine wpAnyH_take (i := 7) (v := ?_) rfl (by kernel_rfl) (by kernel_rfl) (by kernel_rfl) (fun _ _ _ h => h) (Or.inl ⟨by rfl, ?_⟩) hS ?_
       rotate_left 1
       · (intro w0 hSw; (try dsimp only at hSw); go_split_ands; go_simp; try with_reducible rfl))
    | fail
  try simp only [Act.put, List.getElem_toArray, List.getElem_cons_succ, List.getElem_cons_zero, List.setIfInBounds_toArray, List.set_cons_zero, List.set_cons_succ]
  refine wpAnyH_done (by kernel_rfl) ?_ _
  go_wp2_with fail
  go_ret
  exact ⟨ret_str HS.out, HB3.out⟩
set_option maxRecDepth 100000 in
set_option maxHeartbeats 4000000 in
theorem show_5 (t x : ByteArray) (w : World) (ht : t.size ≤ 1000) (hx : x.size ≤ 1000) :
    Calls Tryd.prog 12 #[.agg #[.int .i64 5, .string t, .string x]] w fun e w' => e = .returned (.string (showS ⟨5, t, x⟩)) ∧ Below w.heap.size w w' := by
  obtain ⟨wb, hwb, HB0⟩ := boxT w 5 t x
  have HX0 : Aside0 (BoxedT wb w.heap.size 5 t x) := ⟨by rw [hwb]; exact BoxedT.new w 5 t x _⟩
  have CQ := Aside0.mk (fun W => quoted_any t W ht)
  obtain ⟨q, hq⟩ : ∃ q : ByteArray, q = ⟨(quoteL t.data.toList).toArray⟩ := ⟨_, rfl⟩
  have hqs : q.size ≤ 6002 := by rw [hq]; exact quote_len t ht
  rw [← hq] at CQ
  have HS : Aside0 (q ++ (⟨#[94, 94, 60]⟩ : ByteArray) ++ x ++ (⟨#[62]⟩ : ByteArray) = showS ⟨5, t, x⟩) := ⟨by
    rw [hq]
    conv => lhs; rw [ba_lst x]
    exact (congrArg (· ++ (⟨#[62]⟩ : ByteArray)) ((congrArg (· ++ (⟨(lst x).toArray⟩ : ByteArray)) (ba_app (quoteL (lst t)) [94, 94, 60])).trans (ba_app (quoteL (lst t) ++ [94, 94, 60]) (lst x)))).trans (ba_app (quoteL (lst t) ++ [94, 94, 60] ++ lst x) [62])⟩
  rw [hwb] at HB0 HX0
  clear hwb hq
  have hxs : x.size ≤ 1000 := hx
  have n3 : (⟨#[94, 94, 60]⟩ : ByteArray).size = 3 := rfl
  have a1 : ¬ 9223372036854775807 < q.size + 3 := by omega
  have a2 : ¬ 9223372036854775807 < (q ++ (⟨#[94, 94, 60]⟩ : ByteArray)).size + x.size := by rw [ByteArray.size_append]; omega
  have a3 : ¬ 9223372036854775807 < (q ++ (⟨#[94, 94, 60]⟩ : ByteArray) ++ x).size + 1 := by rw [ByteArray.size_append, ByteArray.size_append]; omega
  have b2 : ¬ 9223372036854775807 < q.size + 3 + x.size := by omega
  have b3 : ¬ 9223372036854775807 < q.size + 3 + x.size + 1 := by omega
  clear n3
  go_enter Tryd.func12, Tryd.ntmps12
  go_upto_region 9 with (fail)
  generalize hwb2 : w.alloc (.cells #[.int .i64 5, .string t, .string x] 24) = wb2 at *
  have HB2 := Aside0.mk (below_drew HB0.out)
  have HX2 : Aside0 (BoxedT wb2.drew w.heap.size 5 t x) := ⟨HX0.out⟩
  clear hwb2
  have hS : (fun W : World => W.cell? ⟨w.heap.size, 0, none⟩ = some (.int .i64 5) ∧ W.cell? ⟨w.heap.size, 1, none⟩ = some (.string t) ∧ W.cell? ⟨w.heap.size, 2, none⟩ = some (.string x)) wb2.drew := HX2.out
  refine wp_region_held (S := (fun W : World => W.cell? ⟨w.heap.size, 0, none⟩ = some (.int .i64 5) ∧ W.cell? ⟨w.heap.size, 1, none⟩ = some (.string t) ∧ W.cell? ⟨w.heap.size, 2, none⟩ = some (.string x))) (by kernel_rfl) ?_
  change wpAnyH _ _ _ _ _ _ _ _ wb2.drew
  first
    | (refine wpAnyH_take (i := 0) (v := undef) rfl (by kernel_rfl) (by kernel_rfl) (by kernel_rfl) (fun _ _ _ h => h) (Or.inr ⟨by rfl, rfl⟩) hS ?_)
    | (refine wpAnyH_take (i := 0) (v := ?_) rfl (by kernel_rfl) (by kernel_rfl) (by kernel_rfl) (fun _ _ _ h => h) (Or.inl ⟨by rfl, ?_⟩) hS ?_
       rotate_left 1
       · (intro w0 hSw; (try dsimp only at hSw); go_split_ands; go_simp; try with_reducible rfl))
    | fail
  try simp only [Act.put, List.getElem_toArray, List.getElem_cons_succ, List.getElem_cons_zero, List.setIfInBounds_toArray, List.set_cons_zero, List.set_cons_succ]
  first
    | (refine wpAnyH_take (i := 1) (v := undef) rfl (by kernel_rfl) (by kernel_rfl) (by kernel_rfl) (fun _ _ _ h => h) (Or.inr ⟨by rfl, rfl⟩) hS ?_)
    | (refine wpAnyH_take (i := 1) (v := ?_) rfl (by kernel_rfl) (by kernel_rfl) (by kernel_rfl) (fun _ _ _ h => h) (Or.inl ⟨by rfl, ?_⟩) hS ?_
       rotate_left 1
       · (intro w0 hSw; (try dsimp only at hSw); go_split_ands; go_simp; try with_reducible rfl))
    | fail
  try simp only [Act.put, List.getElem_toArray, List.getElem_cons_succ, List.getElem_cons_zero, List.setIfInBounds_toArray, List.set_cons_zero, List.set_cons_succ]
  first
    | (refine wpAnyH_take (i := 4) (v := undef) rfl (by kernel_rfl) (by kernel_rfl) (by kernel_rfl) (fun _ _ _ h => h) (Or.inr ⟨by rfl, rfl⟩) hS ?_)
    | (refine wpAnyH_take (i := 4) (v := ?_) rfl (by kernel_rfl) (by kernel_rfl) (by kernel_rfl) (fun _ _ _ h => h) (Or.inl ⟨by rfl, ?_⟩) hS ?_
       rotate_left 1
       · (intro w0 hSw; (try dsimp only at hSw); go_split_ands; go_simp; try with_reducible rfl))
    | fail
  try simp only [Act.put, List.getElem_toArray, List.getElem_cons_succ, List.getElem_cons_zero, List.setIfInBounds_toArray, List.set_cons_zero, List.set_cons_succ]
  first
    | (refine wpAnyH_take (i := 5) (v := undef) rfl (by kernel_rfl) (by kernel_rfl) (by kernel_rfl) (fun _ _ _ h => h) (Or.inr ⟨by rfl, rfl⟩) hS ?_)
    | (refine wpAnyH_take (i := 5) (v := ?_) rfl (by kernel_rfl) (by kernel_rfl) (by kernel_rfl) (fun _ _ _ h => h) (Or.inl ⟨by rfl, ?_⟩) hS ?_
       rotate_left 1
       · (intro w0 hSw; (try dsimp only at hSw); go_split_ands; go_simp; try with_reducible rfl))
    | fail
  try simp only [Act.put, List.getElem_toArray, List.getElem_cons_succ, List.getElem_cons_zero, List.setIfInBounds_toArray, List.set_cons_zero, List.set_cons_succ]
  refine wpAnyH_ready (rs := [2]) (by kernel_rfl) (by simp) ?_
  refine AllReadyH.cons rfl (fun K hK => ?_) AllReadyH.nil
  go_simp
  refine (CQ.out _).mono ?_
  rintro e w3 ⟨rfl, hb⟩
  have HB3 := Aside0.mk (below_then HB2.out HB2.out.size hb)
  have HX3 := Aside0.mk (HX2.out.below hb)
  clear hb hS
  have hS : (fun W : World => W.cell? ⟨w.heap.size, 0, none⟩ = some (.int .i64 5) ∧ W.cell? ⟨w.heap.size, 1, none⟩ = some (.string t) ∧ W.cell? ⟨w.heap.size, 2, none⟩ = some (.string x)) w3 := HX3.out
  refine hK.out _ _ hS (fun _ => ?_)
  clear hK K
  try simp only [Act.put, List.getElem_toArray, List.getElem_cons_succ, List.getElem_cons_zero, List.setIfInBounds_toArray, List.set_cons_zero, List.set_cons_succ]
  first
    | (refine wpAnyH_take (i := 3) (v := undef) rfl (by kernel_rfl) (by kernel_rfl) (by kernel_rfl) (fun _ _ _ h => h) (Or.inr ⟨by rfl, rfl⟩) hS ?_)
    | (refine wpAnyH_take (i := 3) (v := ?_) rfl (by kernel_rfl) (by kernel_rfl) (by kernel_rfl) (fun _ _ _ h => h) (Or.inl ⟨by rfl, ?_⟩) hS ?_
       rotate_left 1
       · (intro w0 hSw; (try dsimp only at hSw); go_split_ands; go_simp; try with_reducible rfl))
    | fail
  try simp only [Act.put, List.getElem_toArray, List.getElem_cons_succ, List.getElem_cons_zero, List.setIfInBounds_toArray, List.set_cons_zero, List.set_cons_succ]
  first
    | (refine wpAnyH_take (i := 6) (v := undef) rfl (by kernel_rfl) (by kernel_rfl) (by kernel_rfl) (fun _ _ _ h => h) (Or.inr ⟨by rfl, rfl⟩) hS ?_)
    | (refine wpAnyH_take (i := 6) (v := ?_) rfl (by kernel_rfl) (by kernel_rfl) (by kernel_rfl) (fun _ _ _ h => h) (Or.inl ⟨by rfl, ?_⟩) hS ?_
       rotate_left 1
       · (intro w0 hSw; (try dsimp only at hSw); go_split_ands; go_simp; try with_reducible rfl))
    | fail
  try simp only [Act.put, List.getElem_toArray, List.getElem_cons_succ, List.getElem_cons_zero, List.setIfInBounds_toArray, List.set_cons_zero, List.set_cons_succ]
  first
    | (refine wpAnyH_take (i := 7) (v := undef) rfl (by kernel_rfl) (by kernel_rfl) (by kernel_rfl) (fun _ _ _ h => h) (Or.inr ⟨by rfl, rfl⟩) hS ?_)
    | (refine wpAnyH_take (i := 7) (v := ?_) rfl (by kernel_rfl) (by kernel_rfl) (by kernel_rfl) (fun _ _ _ h => h) (Or.inl ⟨by rfl, ?_⟩) hS ?_
       rotate_left 1
       · (intro w0 hSw; (try dsimp only at hSw); go_split_ands; go_simp; try with_reducible rfl))
    | fail
  try simp only [Act.put, List.getElem_toArray, List.getElem_cons_succ, List.getElem_cons_zero, List.setIfInBounds_toArray, List.set_cons_zero, List.set_cons_succ]
  first
    | (refine wpAnyH_take (i := 8) (v := undef) rfl (by kernel_rfl) (by kernel_rfl) (by kernel_rfl) (fun _ _ _ h => h) (Or.inr ⟨by rfl, rfl⟩) hS ?_)
    | (refine wpAnyH_take (i := 8) (v := ?_) rfl (by kernel_rfl) (by kernel_rfl) (by kernel_rfl) (fun _ _ _ h => h) (Or.inl ⟨by rfl, ?_⟩) hS ?_
       rotate_left 1
       · (intro w0 hSw; (try dsimp only at hSw); go_split_ands; go_simp; try with_reducible rfl))
    | fail
  try simp only [Act.put, List.getElem_toArray, List.getElem_cons_succ, List.getElem_cons_zero, List.setIfInBounds_toArray, List.set_cons_zero, List.set_cons_succ]
  refine wpAnyH_done (by kernel_rfl) ?_ _
  go_wp2_with fail
  go_ret
  exact ⟨ret_str HS.out, HB3.out⟩
set_option maxRecDepth 100000 in
set_option maxHeartbeats 4000000 in
theorem show_0 (k : Int) (t x : ByteArray) (w : World) (ht : t.size ≤ 1000) (hx : x.size ≤ 1000) (h1 : k ≠ 1) (h2 : k ≠ 2) (h4 : k ≠ 4) (h5 : k ≠ 5) :
    Calls Tryd.prog 12 #[.agg #[.int .i64 k, .string t, .string x]] w fun e w' => e = .returned (.string (showS ⟨k, t, x⟩)) ∧ Below w.heap.size w w' := by
  obtain ⟨wb, hwb, HB0⟩ := boxT w k t x
  have HX0 : Aside0 (BoxedT wb w.heap.size k t x) := ⟨by rw [hwb]; exact BoxedT.new w k t x _⟩
  have CQ := Aside0.mk (fun W => quoted_any t W ht)
  obtain ⟨q, hq⟩ : ∃ q : ByteArray, q = ⟨(quoteL t.data.toList).toArray⟩ := ⟨_, rfl⟩
  have hqs : q.size ≤ 6002 := by rw [hq]; exact quote_len t ht
  rw [← hq] at CQ
  have HS : Aside0 (q = showS ⟨k, t, x⟩) := ⟨by
    rw [hq]; unfold showS showL
    rw [if_neg h1, if_neg h2, if_neg h4, if_neg h5]; rfl⟩
  have e1 : (k == 1) = false := by simpa using h1
  have e2 : (k == 2) = false := by simpa using h2
  have e4 : (k == 4) = false := by simpa using h4
  have e5 : (k == 5) = false := by simpa using h5
  rw [hwb] at HB0 HX0
  clear hwb hq
  clear h1 h2 h4 h5
  go_enter Tryd.func12, Tryd.ntmps12
  go_wp2_with (go_at_call 24; (with_reducible refine (CQ.out _).mono ?_); rintro e w2 ⟨rfl, hb⟩; have HB2 := Aside0.mk (below_then HB0.out HB0.out.size hb); clear hb)
  go_ret
  exact ⟨ret_str HS.out, HB2.out⟩
theorem show_any (a : Trm) (w : World) (ht : a.t.size ≤ 1000) (hx : a.x.size ≤ 1000) : Calls Tryd.prog 12 #[a.val] w fun e w' => e = .returned (.string (showS a)) ∧ Below w.heap.size w w' := by
  obtain ⟨k, t, x⟩ := a
  unfold Trm.val
  by_cases h1 : k = 1
  · subst h1; exact show_1 t x w ht hx
  by_cases h2 : k = 2
  · subst h2; exact show_2 t x w ht hx
  by_cases h4 : k = 4
  · subst h4; exact show_4 t x w ht hx
  by_cases h5 : k = 5
  · subst h5; exact show_5 t x w ht hx
  exact show_0 k t x w ht hx h1 h2 h4 h5
end Go.Proofs.YtmenjcjpihpjjaaDoor.Tm
