/- The walk of term.Cmp. -/
import Derived.Test.YtmenjcjpihpjjaaDoorTmS
import Derived.Laws.Cover1
set_option linter.unusedSimpArgs false
set_option linter.unusedVariables false
namespace Go.Proofs.YtmenjcjpihpjjaaDoor.Tm
open Go Go.RowKit Go.Shelf Go.Proofs.YtmenjcjpihpjjaaDoorW.PrintWords

def cmpS (a b : ByteArray) : Int := if Op.bytesLess a.toList b.toList then -1 else if a.toList == b.toList then 0 else 1
theorem less_irr : ∀ l, Op.bytesLess l l = false
  | [] => rfl
  | a :: l => by
    unfold Op.bytesLess
    rw [less_irr l]; simp
theorem cmp_zero (a b : ByteArray) : cmpS a b = 0 ↔ a = b := by
  unfold cmpS
  rw [ByteArray.toList_eq, ByteArray.toList_eq]
  constructor
  · intro h
    split at h
    · omega
    · split at h
      · rename_i h2
        rw [beq_iff_eq] at h2
        exact ByteArray.ext (Array.toList_inj.1 h2)
      · omega
  · rintro rfl
    rw [less_irr]; simp
set_option maxRecDepth 100000 in
theorem nan_any (a : ByteArray) (w : World) : Calls Tryd.prog 64 #[.string a] w fun e w' => e = .returned (.bool false) ∧ w' = w := by
  go_enter Tryd.func64, Tryd.ntmps64
  go_wp2
  go_ret
  exact ⟨ret_b (by simp), rfl⟩
set_option maxRecDepth 100000 in
set_option maxHeartbeats 2000000 in
theorem compare_any (a b : ByteArray) (w : World) : Calls Tryd.prog 32 #[.string a, .string b] w fun e w' => e = .returned (.int .i64 (cmpS a b)) ∧ w' = w := by
  have CN := Aside0.mk nan_any
  have HC : Aside0 (cmpS a b = if Op.bytesLess a.toList b.toList then -1 else if a.toList == b.toList then 0 else 1) := ⟨rfl⟩
  obtain ⟨x, hx⟩ : ∃ x, Op.bytesLess a.toList b.toList = x := ⟨_, rfl⟩
  obtain ⟨y, hy⟩ : ∃ y, (a.toList == b.toList) = y := ⟨_, rfl⟩
  rw [hx, hy] at HC
  cases x
  · cases y
    all_goals
      go_enter Tryd.func32, Tryd.ntmps32
      go_wp2_with (go_at_call 64; (with_reducible refine (CN.out _ _).mono ?_); rintro e w1 ⟨rfl, rfl⟩)
      go_ret
      exact ⟨by rw [HC.out]; rfl, rfl⟩
  · go_enter Tryd.func32, Tryd.ntmps32
    go_wp2_with (go_at_call 64; (with_reducible refine (CN.out _ _).mono ?_); rintro e w1 ⟨rfl, rfl⟩)
    go_ret
    exact ⟨by rw [HC.out]; rfl, rfl⟩
set_option maxRecDepth 100000 in
set_option maxHeartbeats 2000000 in
theorem cmp_any (a b : Trm) (w : World) (ha : a.t.size ≤ 1000) (ha2 : a.x.size ≤ 1000) (hb : b.t.size ≤ 1000) (hb2 : b.x.size ≤ 1000) : Calls Tryd.prog 17 #[a.val, b.val] w fun e w' => e = .returned (.int .i64 (cmpS (showS a) (showS b))) ∧ Below w.heap.size w w' := by
  have CA : Aside0 (∀ W, Calls Tryd.prog 12 #[a.val] W fun e w' => e = .returned (.string (showS a)) ∧ Below W.heap.size W w') := ⟨fun W => show_any a W ha ha2⟩
  have CB : Aside0 (∀ W, Calls Tryd.prog 12 #[b.val] W fun e w' => e = .returned (.string (showS b)) ∧ Below W.heap.size W w') := ⟨fun W => show_any b W hb hb2⟩
  have CC := Aside0.mk compare_any
  obtain ⟨sa, hsa⟩ : ∃ s, s = showS a := ⟨_, rfl⟩
  obtain ⟨sb, hsb⟩ : ∃ s, s = showS b := ⟨_, rfl⟩
  rw [← hsa, ← hsb]
  rw [← hsa] at CA
  rw [← hsb] at CB
  clear hsa hsb ha ha2 hb hb2
  obtain ⟨k, t, x⟩ := a
  obtain ⟨k', t', x'⟩ := b
  unfold Trm.val at *
  simp only at CA CB
  obtain ⟨wa, hwa, HA⟩ := boxT w k t x
  obtain ⟨wb, hwb, HB⟩ := boxT wa k' t' x'
  have hsz : wa.heap.size = w.heap.size + 1 := by rw [hwa]; simp
  have HX : Aside0 (BoxedT wb w.heap.size k t x) := ⟨BoxedT.below (by rw [hwa]; exact BoxedT.new w k t x _) HB.out⟩
  have HY : Aside0 (BoxedT wb (w.heap.size + 1) k' t' x') := ⟨by rw [hwb, ← hsz]; exact BoxedT.new wa k' t' x' _⟩
  have HB0 : Aside0 (Below w.heap.size w wb) := ⟨below_step HA.out HB.out⟩
  have hw2 : (w.alloc (.cells #[.int .i64 k, .string t, .string x] 24)).alloc (.cells #[.int .i64 k', .string t', .string x'] 24) = wb := by rw [hwb, hwa]
  clear hwa hwb HA HB hsz
  go_enter Tryd.func17, Tryd.ntmps17
  go_upto_region 1 with (fail)
  have HX0 : Aside0 (BoxedT wb.drew w.heap.size k t x) := ⟨HX.out⟩
  have HY0 : Aside0 (BoxedT wb.drew (w.heap.size + 1) k' t' x') := ⟨HY.out⟩
  have HD0 : Aside0 (Below w.heap.size w wb.drew) := ⟨below_drew HB0.out⟩
  clear hw2
  have hS : (fun W : World => (W.cell? ⟨w.heap.size, 0, none⟩ = some (.int .i64 k) ∧ W.cell? ⟨w.heap.size, 1, none⟩ = some (.string t) ∧ W.cell? ⟨w.heap.size, 2, none⟩ = some (.string x)) ∧ (W.cell? ⟨w.heap.size + 1, 0, none⟩ = some (.int .i64 k') ∧ W.cell? ⟨w.heap.size + 1, 1, none⟩ = some (.string t') ∧ W.cell? ⟨w.heap.size + 1, 2, none⟩ = some (.string x'))) wb.drew := ⟨HX0.out, HY0.out⟩
  refine wp_region_held (S := (fun W : World => (W.cell? ⟨w.heap.size, 0, none⟩ = some (.int .i64 k) ∧ W.cell? ⟨w.heap.size, 1, none⟩ = some (.string t) ∧ W.cell? ⟨w.heap.size, 2, none⟩ = some (.string x)) ∧ (W.cell? ⟨w.heap.size + 1, 0, none⟩ = some (.int .i64 k') ∧ W.cell? ⟨w.heap.size + 1, 1, none⟩ = some (.string t') ∧ W.cell? ⟨w.heap.size + 1, 2, none⟩ = some (.string x')))) (by kernel_rfl) ?_
  change wpAnyH _ _ _ _ _ _ _ _ wb.drew
  first
    | (refine wpAnyH_take (i := 0) (v := undef) rfl (by kernel_rfl) (by kernel_rfl) (by kernel_rfl) (fun _ _ _ h => h) (Or.inr ⟨by rfl, rfl⟩) hS ?_)
    | (refine wpAnyH_take (i := 0) (v := ?_) rfl (by kernel_rfl) (by kernel_rfl) (by kernel_rfl) (fun _ _ _ h => h) (Or.inl ⟨by rfl, ?_⟩) hS ?_
       rotate_left 1
       · (intro w0 hSw; (try dsimp only at hSw); go_split_ands; go_simp; try with_reducible rfl))
    | fail
  try simp only [Act.put, List.getElem_toArray, List.getElem_cons_succ, List.getElem_cons_zero, List.setIfInBounds_toArray, List.set_cons_zero, List.set_cons_succ]
  first
    | (refine wpAnyH_take (i := 2) (v := undef) rfl (by kernel_rfl) (by kernel_rfl) (by kernel_rfl) (fun _ _ _ h => h) (Or.inr ⟨by rfl, rfl⟩) hS ?_)
    | (refine wpAnyH_take (i := 2) (v := ?_) rfl (by kernel_rfl) (by kernel_rfl) (by kernel_rfl) (fun _ _ _ h => h) (Or.inl ⟨by rfl, ?_⟩) hS ?_
       rotate_left 1
       · (intro w0 hSw; (try dsimp only at hSw); go_split_ands; go_simp; try with_reducible rfl))
    | fail
  try simp only [Act.put, List.getElem_toArray, List.getElem_cons_succ, List.getElem_cons_zero, List.setIfInBounds_toArray, List.set_cons_zero, List.set_cons_succ]
  refine wpAnyH_ready (rs := [1]) (by kernel_rfl) (by simp) ?_
  refine AllReadyH.cons rfl (fun K hK => ?_) AllReadyH.nil
  go_simp
  refine (CA.out _).mono ?_
  rintro e w1 ⟨rfl, hb⟩
  have HD1 := Aside0.mk (below_step HD0.out hb)
  have HX1 := Aside0.mk (HX0.out.below hb)
  have HY1 := Aside0.mk (HY0.out.below hb)
  clear hb hS
  have hS : (fun W : World => (W.cell? ⟨w.heap.size, 0, none⟩ = some (.int .i64 k) ∧ W.cell? ⟨w.heap.size, 1, none⟩ = some (.string t) ∧ W.cell? ⟨w.heap.size, 2, none⟩ = some (.string x)) ∧ (W.cell? ⟨w.heap.size + 1, 0, none⟩ = some (.int .i64 k') ∧ W.cell? ⟨w.heap.size + 1, 1, none⟩ = some (.string t') ∧ W.cell? ⟨w.heap.size + 1, 2, none⟩ = some (.string x'))) w1 := ⟨HX1.out, HY1.out⟩
  refine hK.out _ _ hS (fun _ => ?_)
  clear hK K
  try simp only [Act.put, List.getElem_toArray, List.getElem_cons_succ, List.getElem_cons_zero, List.setIfInBounds_toArray, List.set_cons_zero, List.set_cons_succ]
  refine wpAnyH_ready (rs := [3]) (by kernel_rfl) (by simp) ?_
  refine AllReadyH.cons rfl (fun K hK => ?_) AllReadyH.nil
  go_simp
  refine (CB.out _).mono ?_
  rintro e w2 ⟨rfl, hb⟩
  have HD2 := Aside0.mk (below_step HD1.out hb)
  have HX2 := Aside0.mk (HX1.out.below hb)
  have HY2 := Aside0.mk (HY1.out.below hb)
  clear hb hS
  have hS : (fun W : World => (W.cell? ⟨w.heap.size, 0, none⟩ = some (.int .i64 k) ∧ W.cell? ⟨w.heap.size, 1, none⟩ = some (.string t) ∧ W.cell? ⟨w.heap.size, 2, none⟩ = some (.string x)) ∧ (W.cell? ⟨w.heap.size + 1, 0, none⟩ = some (.int .i64 k') ∧ W.cell? ⟨w.heap.size + 1, 1, none⟩ = some (.string t') ∧ W.cell? ⟨w.heap.size + 1, 2, none⟩ = some (.string x'))) w2 := ⟨HX2.out, HY2.out⟩
  refine hK.out _ _ hS (fun _ => ?_)
  clear hK K
  try simp only [Act.put, List.getElem_toArray, List.getElem_cons_succ, List.getElem_cons_zero, List.setIfInBounds_toArray, List.set_cons_zero, List.set_cons_succ]
  refine wpAnyH_ready (rs := [4]) (by kernel_rfl) (by simp) ?_
  refine AllReadyH.cons rfl (fun K hK => ?_) AllReadyH.nil
  go_simp
  refine (CC.out _ _ _).mono ?_
  rintro e w3 ⟨rfl, rfl⟩
  refine hK.out _ _ hS (fun _ => ?_)
  clear hK K
  try simp only [Act.put, List.getElem_toArray, List.getElem_cons_succ, List.getElem_cons_zero, List.setIfInBounds_toArray, List.set_cons_zero, List.set_cons_succ]
  first
    | (refine wpAnyH_take (i := 5) (v := undef) rfl (by kernel_rfl) (by kernel_rfl) (by kernel_rfl) (fun _ _ _ h => h) (Or.inr ⟨by rfl, rfl⟩) hS ?_)
    | (refine wpAnyH_take (i := 5) (v := ?_) rfl (by kernel_rfl) (by kernel_rfl) (by kernel_rfl) (fun _ _ _ h => h) (Or.inl ⟨by rfl, ?_⟩) hS ?_
       rotate_left 1
       · (intro w0 hSw; (try dsimp only at hSw); go_split_ands; go_simp; try with_reducible rfl))
    | fail
  try simp only [Act.put, List.getElem_toArray, List.getElem_cons_succ, List.getElem_cons_zero, List.setIfInBounds_toArray, List.set_cons_zero, List.set_cons_succ]
  refine wpAnyH_done (by kernel_rfl) ?_ _
  go_wp2_with fail
  go_ret
  exact ⟨rfl, HD2.out⟩
end Go.Proofs.YtmenjcjpihpjjaaDoor.Tm
