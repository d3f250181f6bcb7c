/- The walks of leaf and joins: one more place; what may stand behind places. -/
import Derived.Test.YtbaegfjoionojaaDoorQaI
import Derived.Test.YtbaegfjoionojaaDoorQyQ
import Derived.Test.YtbaegfjoionojaaDoorQyK
import Derived.Test.YtbaegfjoionojaaDoorQvB
set_option linter.unusedSimpArgs false
set_option linter.unusedVariables false
namespace Go.Proofs.YtbaegfjoionojaaDoor.Qa
open Go Go.RowKit Go.Proofs.YtbaegfjoionojaaDoor.Qy Go.Proofs.YtbaegfjoionojaaDoor.Tm Go.Proofs.YtbaegfjoionojaaDoorW.PrintWords

theorem boxA (w : World) (c : Array Value) (ty : TypeId) : ∃ wb, wb = w.alloc (.cells c ty) ∧ Aside0 (Below w.heap.size w wb) ∧ Aside0 (wb.heap[w.heap.size]? = some (.cells c ty (0, 0))) ∧ wb.heap.size = w.heap.size + 1 := ⟨_, rfl, ⟨below_alloc (Below.refl _ _) _⟩, ⟨heap_alloc_new _ _⟩, by simp⟩
/-- A part that is answered: where it may begin and end, and whether it has the empty word. -/
def PartAt (w : World) (S : Nat → Prop) (f l : List Nat) (em : Bool) (e : Ending) : Prop := ∃ (F : Option Addr) (cF : Nat) (L : Option Addr) (cL : Nat),
  e = .returned (.agg #[.slice F f.length cF, .slice L l.length cL, .bool em]) ∧ IntsAt w (fun g => ¬ S g) F f ∧ IntsAt w (fun g => ¬ S g) L l
def PartP (N b : Nat) (al : List Alng) (bh : List (List Nat)) (f l : List Nat) (em : Bool) (S : Nat → Prop) (w : World) (e : Ending) (w' : World) : Prop := ∃ S', Aut w' N b al bh S' ∧ Fr S w S' w' ∧ PartAt w' S' f l em e
theorem info_al : (Tryd.prog.info? 113).map (fun i => (i.zero, i.size, i.bytes)) = some (some (.agg #[.slice none 0 0, .bool false, .bool false]), 3, 32) := by kernel_rfl
theorem info_row : (Tryd.prog.info? 71).map (fun i => (i.zero, i.size, i.bytes)) = some (some (.slice none 0 0), 1, 24) := by kernel_rfl
theorem info_int : (Tryd.prog.info? 3).map (fun i => (i.zero, i.size, i.bytes)) = some (some (.int .i64 0), 1, 8) := by kernel_rfl
theorem one_int {w : World} {b n : Nat} {ty : TypeId} {S : Nat → Prop} (h : w.heap[b]? = some (.cells #[.int .i64 (n : Int)] ty (0, 0))) (hS : ¬ S b) : IntsAt w (fun g => ¬ S g) (some ⟨b, 0, none⟩) [n] :=
  ⟨by simp, fun _ => ⟨b, 0, rfl, hS, fun j m hm => by
    cases j with
    | zero => simp at hm; subst hm; exact (blk_cell h 0).trans rfl
    | succ j => simp at hm⟩⟩
set_option maxRecDepth 100000 in
set_option maxHeartbeats 8000000 in
theorem leaf_any (w : World) (N b : Nat) (al : List Alng) (bh : List (List Nat)) (S : Nat → Prop) (h : Aut w N b al bh S) (hN : N ≤ w.heap.size) (x : Alng) (A : Option Addr) (c : Nat) (hc : x.ts.length ≤ c) (hts : TsAt w (fun g => ¬ S g) A x.ts) (ha : al.length ≤ 1000) (hbl : bh.length ≤ 1001) :
    Calls Tryd.prog 96 #[.pointer (some ⟨b, 0, none⟩), .agg #[.slice A x.ts.length c, .bool x.neg, .bool x.back]] w (PartP N b (al ++ [x]) (bh ++ [[]]) [al.length + 1] [al.length + 1] false S w) := by
  obtain ⟨vA, vB, inA, bs, c2, c3, c4, hV, rfl⟩ := h
  obtain ⟨tn, htn⟩ : ∃ n, x.ts.length = n := ⟨_, rfl⟩
  obtain ⟨xn, hxn⟩ : ∃ n, x.neg = n := ⟨_, rfl⟩
  obtain ⟨xb, hxb⟩ : ∃ n, x.back = n := ⟨_, rfl⟩
  have HX : Aside0 (AlR w (fun g => ¬ ownS b vA vB bs g) x [.slice A tn c, .bool xn, .bool xb]) := ⟨⟨A, c, by rw [htn, hxn, hxb], hc, hts⟩⟩
  rw [htn, hxn, hxb]
  obtain ⟨wb, hwb, HB, HN, hsb⟩ := boxA w #[.slice A tn c, .bool xn, .bool xb] 113
  obtain ⟨wc, hwc, HB2, HN2, hsc⟩ := boxA wb #[.slice none 0 0, .slice none 0 0, .bool false] 98
  have HW1 := Aside0.mk hwb.symm
  have HW2 := Aside0.mk hwc.symm
  have HBc := Aside0.mk (HB.out.trans (HB2.out.mono HB.out.size))
  have HVc := Aside0.mk (hV.below HBc.out)
  have HN1 := Aside0.mk (blk_below HN.out HB2.out)
  rw [hsb] at HN2
  obtain ⟨sz, hsz⟩ : ∃ n, w.heap.size = n := ⟨_, rfl⟩
  rw [hsz] at HN1 HN2 hsb hN
  have HXO : Aside0 (∀ u ∈ [Value.slice A tn c, .bool xn, .bool xb], u.oneCell' = true) := ⟨fun u hu => by
    simp only [List.mem_cons, List.not_mem_nil, or_false] at hu
    rcases hu with rfl | rfl | rfl <;> rfl⟩
  have HXc : Aside0 (AlR wc (fun g => ¬ ownS b vA vB bs g) x [.slice A tn c, .bool xn, .bool xb]) := ⟨HX.out.move (fun k hk hl => ⟨HBc.out.block k hl, hk⟩)⟩
  have hSz : ∀ g, ownS b vA vB bs g → g < sz := fun g hg => hsz ▸ (hV.S_lt hg).2
  have HSZ := Aside0.mk hSz
  have HFc : Aside0 (Fr (ownS b vA vB bs) w (ownS b vA vB bs) wc) := ⟨Fr.of HBc.out⟩
  have hszc : wc.heap.size = sz + 2 := by omega
  obtain ⟨AA, cA, hvA⟩ := own_slice hV.oA
  obtain ⟨AB, cB, hvB⟩ := own_slice hV.oB
  have hbz : b < sz := hSz b (Or.inl rfl)
  clear hV hwb hwc hts hc htn hxn hxb HX HB HN HB2 hsb hsc hSz
  subst hvA hvB
  go_enter Tryd.func96, Tryd.ntmps96
  go_upto_region 1 with (fail)
  rw [HW1.out, HW2.out]
  clear HW1 HW2
  have c0 := blk_cell HVc.out.blk 0
  have d0 := blk_cell HN1.out 0
  have d1 := blk_cell HN1.out 1
  have d2 := blk_cell HN1.out 2
  simp at c0 d0 d1 d2
  have hS : (fun W : World => W.cell? ⟨sz, 0, none⟩ = some (.slice A tn c) ∧ W.cell? ⟨sz, 1, none⟩ = some (.bool xn) ∧ W.cell? ⟨sz, 2, none⟩ = some (.bool xb)) wc.drew := ⟨d0, d1, d2⟩
  refine wp_region_held (S := (fun W : World => W.cell? ⟨sz, 0, none⟩ = some (.slice A tn c) ∧ W.cell? ⟨sz, 1, none⟩ = some (.bool xn) ∧ W.cell? ⟨sz, 2, none⟩ = some (.bool xb))) (by kernel_rfl) ?_
  change wpAnyH _ _ _ _ _ _ _ _ wc.drew
  have HVd := Aside0.mk (HVc.out.below (below_drew (Below.refl _ _)))
  have HXd : Aside0 (AlR wc.drew (fun g => ¬ ownS b (.slice AA al.length cA) (.slice AB bh.length cB) bs g) x [.slice A tn c, .bool xn, .bool xb]) := ⟨HXc.out.move (fun k hk hl => ⟨rfl, hk⟩)⟩
  have HFd := Aside0.mk (HFc.out.trans (Fr.of (S := ownS b (.slice AA al.length cA) (.slice AB bh.length cB) bs) (below_drew (Below.refl _ _))))
  have HNd : Aside0 (wc.drew.heap[sz + 1]? = some (.cells #[.slice none 0 0, .slice none 0 0, .bool false] 98 (0, 0))) := ⟨HN2.out⟩
  have HSD : Aside0 (wc.drew.heap.size = sz + 2) := ⟨hszc⟩
  change wc.drew.cell? ⟨b, 0, none⟩ = _ at c0
  generalize wc.drew = wd at hS HVd HXd HFd HNd HSD c0 ⊢
  clear d0 d1 d2 HVc HXc HFc HN1 HN2 HBc hszc
  first | refine tkU 0 hS ?_ | (refine tkV 0 (v := ?_) hS ?_ ?_; rotate_left 1; · (intro w0 hSw; (try dsimp only at hSw); go_split_ands; go_simp; try with_reducible rfl)) | fail
  try simp only [Act.put, pL]
  first | refine tkU 1 hS ?_ | (refine tkV 1 (v := ?_) hS ?_ ?_; rotate_left 1; · (intro w0 hSw; (try dsimp only at hSw); go_split_ands; go_simp; try with_reducible rfl)) | fail
  try simp only [Act.put, pL]
  first | refine tkU 2 hS ?_ | (refine tkV 2 (v := ?_) hS ?_ ?_; rotate_left 1; · (intro w0 hSw; (try dsimp only at hSw); go_split_ands; go_simp; try with_reducible rfl)) | fail
  try simp only [Act.put, pL]
  first | refine tkU 3 hS ?_ | (refine tkV 3 (v := ?_) hS ?_ ?_; rotate_left 1; · (intro w0 hSw; (try dsimp only at hSw); go_split_ands; go_simp; try with_reducible rfl)) | fail
  try simp only [Act.put, pL]
  first | refine tkU 5 hS ?_ | (refine tkV 5 (v := ?_) hS ?_ ?_; rotate_left 1; · (intro w0 hSw; (try dsimp only at hSw); go_split_ands; go_simp; try with_reducible rfl)) | fail
  try simp only [Act.put, pL]
  have hS6 : (fun W : World => W.cell? ⟨sz, 0, none⟩ = some (.slice A tn c) ∧ W.cell? ⟨sz, 1, none⟩ = some (.bool xn) ∧ W.cell? ⟨sz, 2, none⟩ = some (.bool xb)) (wd.alloc (.cells #[.slice A tn c, .bool xn, .bool xb] 113)) := ⟨pw_cell_below (below_alloc (Below.refl _ _) _) hS.1, pw_cell_below (below_alloc (Below.refl _ _) _) hS.2.1, pw_cell_below (below_alloc (Below.refl _ _) _) hS.2.2⟩
  have c06 : (wd.alloc (.cells #[.slice A tn c, .bool xn, .bool xb] 113)).cell? ⟨b, 0, none⟩ = some (.slice AA al.length cA) := pw_cell_below (below_alloc (Below.refl _ _) _) c0
  refine wpAnyH_ready (rs := [4, 6]) (by kernel_rfl) (by simp) ?_
  refine AllReadyH.cons rfl (fun K hK => ?_) (AllReadyH.cons rfl (fun K hK => ?_) AllReadyH.nil)
  go_simp
  refine hK.out _ _ hS (fun _ => ?_)
  clear hK K
  try simp only [Act.put, pL]
  refine wpAnyH_ready (rs := [6]) (by kernel_rfl) (by simp) ?_
  refine AllReadyH.cons rfl (fun K hK => ?_) AllReadyH.nil
  go_simp
  refine hK.out _ _ hS6 (fun _ => ?_)
  clear hK K
  try simp only [Act.put, pL]
  rotate_left 1
  go_simp
  refine hK.out _ _ hS6 (fun _ => ?_)
  clear hK K
  try simp only [Act.put, pL]
  refine wpAnyH_ready (rs := [4]) (by kernel_rfl) (by simp) ?_
  refine AllReadyH.cons rfl (fun K hK => ?_) AllReadyH.nil
  go_simp
  refine hK.out _ _ hS6 (fun _ => ?_)
  clear hK K
  try simp only [Act.put, pL]
  rotate_left 1
  all_goals
    skip
    refine wpAnyH_ready (rs := [7]) (by kernel_rfl) (by simp) ?_
    refine AllReadyH.cons rfl (fun K hK => ?_) AllReadyH.nil
    refine step_append_cells (w0 := wd) (W := wd) N (by rfl) (.tmp 10) (.tmp 12) 96 113 (.agg #[.slice none 0 0, .bool false, .bool false]) 3 32 (by rfl) Tryd.underlying96 info_al rfl (by decide) (by decide) (.slice AA al.length cA) al.length inA [.slice A tn c, .bool xn, .bool xb] (by rfl) (by rfl) rfl HXO.out HVd.out.oA (Below.refl _ _) (by have := HSD.out; omega) (by omega) ?_
    intro v4 w4 ho hb4 hg hat
    have hnb := HVd.out.b_ne.1
    have hns : some sz ≠ (Value.slice AA al.length cA).ownBlock := fun e => Nat.lt_irrefl sz (HSZ.out sz (Or.inr (Or.inl e.symm)))
    have hns1 : some (sz + 1) ≠ (Value.slice AA al.length cA).ownBlock := fun e => by have := HSZ.out (sz + 1) (Or.inr (Or.inl e.symm)); omega
    have hbk := blk_grown HVd.out.blk hg hnb
    have hszd := HSD.out
    have hS4 : (fun W : World => W.cell? ⟨sz, 0, none⟩ = some (.slice A tn c) ∧ W.cell? ⟨sz, 1, none⟩ = some (.bool xn) ∧ W.cell? ⟨sz, 2, none⟩ = some (.bool xb)) w4 := ⟨hg.cell hS.1 hns, hg.cell hS.2.1 hns, hg.cell hS.2.2 hns⟩
    have q0 := blk_cell hbk 0
    have q1 := blk_frozen hbk 0
    simp at q0
    obtain ⟨A4, n4, hv4⟩ := own_slice ho
    subst hv4
    obtain ⟨hV5, hF5⟩ := HVd.out.addA HXd.out ho hg hat
    have HV5 := Aside0.mk hV5
    have HF5 := Aside0.mk (HFd.out.trans hF5)
    have HN5 : Aside0 ((w4.setCell ⟨b, 0, none⟩ (.slice A4 (al.length + 1) n4)).heap[sz + 1]? = some (.cells #[.slice none 0 0, .slice none 0 0, .bool false] 98 (0, 0))) := ⟨blk_far (p := ⟨b, 0, none⟩) (blk_grown HNd.out hg hns1) (by show sz + 1 ≠ b; omega) _⟩
    have hS5 : (fun W : World => W.cell? ⟨sz, 0, none⟩ = some (.slice A tn c) ∧ W.cell? ⟨sz, 1, none⟩ = some (.bool xn) ∧ W.cell? ⟨sz, 2, none⟩ = some (.bool xb)) (w4.setCell ⟨b, 0, none⟩ (.slice A4 (al.length + 1) n4)) := ⟨(World.cell?_of_block (Below.heap_setCell w4 ⟨b, 0, none⟩ _ sz (by show sz ≠ b; omega))).trans hS4.1, (World.cell?_of_block (Below.heap_setCell w4 ⟨b, 0, none⟩ _ sz (by show sz ≠ b; omega))).trans hS4.2.1, (World.cell?_of_block (Below.heap_setCell w4 ⟨b, 0, none⟩ _ sz (by show sz ≠ b; omega))).trans hS4.2.2⟩
    refine hK.out _ _ hS4 (fun _ => ?_)
    clear hK K hV5 hF5 ho hb4 hg hat hS hS6 c0 c06 hnb hns hns1 hbk HXd HFd HVd HNd hszd
    try simp only [Act.put, pL]
    first | refine tkU 8 hS4 ?_ | (refine tkV 8 (v := ?_) hS4 ?_ ?_; rotate_left 1; · (intro w0 hSw; (try dsimp only at hSw); go_split_ands; go_simp; try with_reducible rfl)) | fail
    try simp only [Act.put, pL]
    first | refine tkU 9 hS4 ?_ | (refine tkV 9 (v := ?_) hS4 ?_ ?_; rotate_left 1; · (intro w0 hSw; (try dsimp only at hSw); go_split_ands; go_simp; try with_reducible rfl)) | fail
    try simp only [Act.put, pL]
    refine wpAnyH_ready (rs := [10]) (by kernel_rfl) (by simp) ?_
    refine AllReadyH.cons rfl (fun K hK => ?_) AllReadyH.nil
    go_simp
    refine hK.out _ _ hS5 (fun _ => ?_)
    clear hK K hS4 q0 q1
    try simp only [Act.put, pL]
    refine wpAnyH_done (by kernel_rfl) ?_ _
    generalize w4.setCell ⟨b, 0, none⟩ (.slice A4 (al.length + 1) n4) = w5 at HV5 HF5 HN5 hS5 ⊢
    clear hS5
    have c1 := blk_cell HV5.out.blk 1
    simp at c1
    have hbase : N ≤ w5.heap.size := by have := blk_lt HN5.out; omega
    go_upto_region 3 with (((with_reducible refine gate_builtin (b := .append) (xs := #[.tmp 20, .tmp 21]) rfl ?_); at_builtin; refine print_append_cells (w0 := w5) (W := w5) N rfl (.tmp 20) (.tmp 21) 95 71 (.slice none 0 0) 1 24 rfl Tryd.underlying95 info_row rfl (by decide) (by decide) (.slice AB bh.length cB) bh.length bs [.slice none 0 0] rfl rfl rfl (fun u hu => by rw [List.mem_singleton.1 hu]; rfl) HV5.out.oB (Below.refl _ _) hbase (by omega) ?_; intro v6 w6 ho hb6 hg hat; obtain ⟨A6, n6, hv6⟩ := own_slice ho; subst hv6; obtain ⟨hV7, hF7⟩ := HV5.out.addB ho hg hat; have HV7 := Aside0.mk hV7; have HF7 := Aside0.mk (HF5.out.trans hF7); have hns2 : some (sz + 1) ≠ (Value.slice AB bh.length cB).ownBlock := (fun e => (by have := HSZ.out (sz + 1) (Or.inr (Or.inr (Or.inl e.symm))); omega)); have hbk := blk_grown HV5.out.blk hg HV5.out.b_ne.2.1; have HN7 : Aside0 ((w6.setCell ⟨b, 1, none⟩ (.slice A6 (bh.length + 1) n6)).heap[sz + 1]? = some (.cells #[.slice none 0 0, .slice none 0 0, .bool false] 98 (0, 0))) := ⟨blk_far (p := ⟨b, 1, none⟩) (blk_grown HN5.out hg hns2) (by show sz + 1 ≠ b; omega) _⟩; have q1 := blk_cell hbk 1; have k1 := blk_frozen hbk 1; simp at q1; clear ho hb6 hg hat hV7 hF7 hns2 hbk))
    generalize w6.setCell ⟨b, 1, none⟩ (.slice A6 (bh.length + 1) n6) = w7 at HV7 HF7 HN7 ⊢
    clear q1 k1 HV5 HF5 HN5 hbase
    have c0 := blk_cell HV7.out.blk 0
    simp at c0
    go_upto_region 4 with (fail)
    obtain ⟨m, hm⟩ : ∃ m, al.length + 1 = m := ⟨_, rfl⟩
    rw [hm] at HV7 HF7 ⊢
    clear c0
    have hpm : (al.length : Int) + 1 = (m : Int) := by omega
    rw [hpm]
    obtain ⟨w8, hw8, H8, HN8, hs8⟩ := boxA w7 #[.int .i64 (m : Int)] 3
    obtain ⟨w9, hw9, H9, HN9, hs9⟩ := boxA w8 #[.int .i64 (m : Int)] 3
    have HB9 := Aside0.mk (H8.out.trans (H9.out.mono H8.out.size))
    have HA9 := Aside0.mk (blk_below HN8.out H9.out)
    have HP9 := Aside0.mk (blk_below HN7.out HB9.out)
    have HV9 := Aside0.mk (HV7.out.below HB9.out)
    have HF9 := Aside0.mk (HF7.out.trans (Fr.of HB9.out))
    have HW9 := Aside0.mk hw9.symm
    have HW8 := Aside0.mk hw8.symm
    rw [hs8] at HN9
    have hz9 : w7.heap.size < w9.heap.size ∧ w7.heap.size + 1 < w9.heap.size := by omega
    have n0 := blk_cell HP9.out 0
    have n1 := blk_cell HP9.out 1
    have n2 := blk_cell HP9.out 2
    simp at n0 n1 n2
    have k0 := blk_frozen HP9.out 0
    have k1 := blk_frozen HP9.out 1
    have k2 := blk_frozen HP9.out 2
    have e0 : ((w7.alloc (.cells #[.int .i64 (m : Int)] 3)).alloc (.cells #[.int .i64 (m : Int)] 3)) = w9 := by rw [HW8.out, HW9.out]
    have HE0 := Aside0.mk e0
    rw [← e0] at n0 n1 n2 k0 k1 k2
    clear hw8 hw9 hs8 hs9 e0 H8 H9 HN8
    go_wp2_with fail
    rw [HE0.out]
    have HP : Aside0 (PartB w9 (sz + 1) none 0 0 none 0 0 false) := ⟨HP9.out⟩
    obtain ⟨wx, hwx⟩ : ∃ W, W = ((w9.setCell ⟨sz + 1, 0, none⟩ (.slice (some ⟨w7.heap.size, 0, none⟩) 1 1)).setCell ⟨sz + 1, 1, none⟩ (.slice (some ⟨w7.heap.size + 1, 0, none⟩) 1 1)).setCell ⟨sz + 1, 2, none⟩ (.bool false) := ⟨_, rfl⟩
    rw [← hwx]
    have hbt : Bt (sz + 1) w9 wx := by rw [hwx]; exact Bt.set3 _ _ _ _ _
    have HPx : Aside0 (PartB wx (sz + 1) (some ⟨w7.heap.size, 0, none⟩) 1 1 (some ⟨w7.heap.size + 1, 0, none⟩) 1 1 false) := ⟨by rw [hwx]; exact HP.out.set3⟩
    have HVx := Aside0.mk (HV9.out.far HP.out hbt)
    have HFx := Aside0.mk (HF9.out.far hbt (by omega))
    have HI1 := Aside0.mk ((one_int HA9.out (S := fun g => ownS b (.slice A4 m n4) (.slice A6 (bh.length + 1) n6) (bs ++ [.slice none 0 0]) g) (fun h => by have := (HV7.out.S_lt h).2; omega)).far HP.out hbt)
    have HI2 := Aside0.mk ((one_int HN9.out (S := fun g => ownS b (.slice A4 m n4) (.slice A6 (bh.length + 1) n6) (bs ++ [.slice none 0 0]) g) (fun h => by have := (HV7.out.S_lt h).2; omega)).far HP.out hbt)
    clear hwx n0 n1 n2 k0 k1 k2 HE0 HP9 HW8 HW9
    obtain ⟨z0, z1, z2, -⟩ := HPx.out.cells
    refine bodyPost_ret (by simp [results, Tryd.results96, go_sem, z0, z1, z2]; try rfl) rfl ?_
    rw [hm]
    exact ⟨_, ⟨_, _, _, _, _, _, _, HVx.out, rfl⟩, HFx.out, some ⟨w7.heap.size, 0, none⟩, 1, some ⟨w7.heap.size + 1, 0, none⟩, 1, rfl, HI1.out, HI2.out⟩
section
variable {P : Program} {ops : Array Oper} {o : Oper} {a : Act} {Q : Exit → Act → World → Prop} {K : Act → World → Prop}
/-- append of a row of places to a row of the call's own. -/
theorem run_ints {W : World} (base : Nat) (t e ty : TypeId) (ht : P.underlying t = some (.slice e)) (hinfo : (P.info? e).map (fun i => (i.zero, i.size, i.bytes)) = some (some (.int .i64 0), 1, 8)) (v : Value) (xs ys : List Nat) (B off cap : Nat)
    (hy : ∀ (j n : Nat), ys[j]? = some n → W.cell? ⟨B, off + j, none⟩ = some (.int .i64 (n : Int))) (HO : W.ownsRow base e 1 v xs.length (ns xs)) (hbase : base ≤ W.heap.size) (hl : xs.length + ys.length ≤ 1000000) :
    ∃ v1 w1, (Builtin.append_ #[t, t] ty #[v, .slice (some ⟨B, off, none⟩) ys.length cap]).run P W = .ok v1 w1 ∧ w1.ownsRow base e 1 v1 (xs ++ ys).length (ns (xs ++ ys)) ∧ W.grownBy w1 v.ownBlock ∧ (v1.ownBlock = v.ownBlock ∨ ∃ g, v1.ownBlock = some g ∧ W.heap.size ≤ g) := by
  obtain ⟨i0, hi, hzz⟩ := Option.map_eq_some_iff.1 hinfo
  simp only [Prod.mk.injEq] at hzz
  obtain ⟨hz0, hz1, hz2⟩ := hzz
  obtain ⟨v1, w1, hr, hown, hg, _, hat⟩ := run_append_own_at (P := P) W base t ty e i0 (.int .i64 0) 1 8 ht hi hz0 hz1 hz2 rfl (by decide) v xs.length (ns xs) HO ⟨B, off, none⟩ ys.length cap (ns ys) (by rw [ns_length, Nat.mul_one])
    (fun j u hu => by
      have hj : j < ys.length := by have := (List.getElem?_eq_some_iff.1 hu).1; rwa [ns_length] at this
      have h1 := ns_get (List.getElem?_eq_getElem hj)
      rw [h1] at hu
      rw [Qy.add_at, hy j _ (List.getElem?_eq_getElem hj)]
      exact hu) (fun u hu => by
      simp only [ns, List.mem_map] at hu
      obtain ⟨n, _, rfl⟩ := hu
      rfl) (by simp only [maxLen]; omega) (by omega) hbase
  refine ⟨v1, w1, hr, ?_, hg, ?_⟩
  · rw [List.length_append, ns_append]; exact hown
  · rcases hat with hat | hat
    · exact .inl hat
    · exact .inr ⟨_, hat, Nat.le_refl _⟩
theorem step_append_ints {W : World} (base : Nat) (hw : Region.wanted o (yielded ops a.tmps) = true) (s x : Operand) (t e : TypeId)
    (ho : o.op = .call { callee := .builtin .append, args := #[s, x], argTypes := #[t, t] })
    (ht : P.underlying t = some (.slice e)) (hinfo : (P.info? e).map (fun i => (i.zero, i.size, i.bytes)) = some (some (.int .i64 0), 1, 8)) (v : Value) (xs ys : List Nat) (hs : a.eval s = v) (B off cap : Nat) (hx : a.eval x = .slice (some ⟨B, off, none⟩) ys.length cap)
    (hy : ∀ (j n : Nat), ys[j]? = some n → W.cell? ⟨B, off + j, none⟩ = some (.int .i64 (n : Int))) (HO : W.ownsRow base e 1 v xs.length (ns xs)) (hbase : base ≤ W.heap.size) (hl : xs.length + ys.length ≤ 1000000)
    (h : ∀ v1 w1, w1.ownsRow base e 1 v1 (xs ++ ys).length (ns (xs ++ ys)) → W.grownBy w1 v.ownBlock → (v1.ownBlock = v.ownBlock ∨ ∃ g, v1.ownBlock = some g ∧ W.heap.size ≤ g) → K (a.put o.dst v1) w1) :
    if Region.wanted o (yielded ops a.tmps) = true then Oper.wp P o a W K Q else K (a.put o.dst undef) W := by
  rw [if_pos hw]
  obtain ⟨v1, w1, hr, h1, h2, h3⟩ := run_ints (W := W) base t e o.type ht hinfo v xs ys B off cap hy HO hbase hl
  unfold Oper.wp execOp
  simp only [ho, resolve, invoke, builtin, Sem.run_bind, Sem.run_pure, Result.andThen_ok, List.map_toArray, List.map_cons, List.map_nil, hs, hx, hr]
  exact h v1 w1 h1 h2 h3
end
def JoinP (N b : Nat) (al : List Alng) (bh : List (List Nat)) (S : Nat → Prop) (w : World) (e : Ending) (w' : World) : Prop := e = .returned (.tuple #[]) ∧ ∃ S', Aut w' N b al bh S' ∧ Fr S w S' w'
set_option maxRecDepth 100000 in
set_option maxHeartbeats 8000000 in
theorem joins_any (w : World) (N b : Nat) (al : List Alng) (bh : List (List Nat)) (S : Nat → Prop) (h : Aut w N b al bh S) (F : Option Addr) (f : List Nat) (cF : Nat) (T : Option Addr) (t : List Nat) (cT : Nat) (hf : IntsAt w (fun g => ¬ S g) F f) (ht : IntsAt w (fun g => ¬ S g) T t)
    (ht0 : 0 < t.length) (hfb : ∀ n ∈ f, n < bh.length) (hf30 : f.length ≤ 30) (ht30 : t.length ≤ 30) (hbl : ∀ i, (bh.getD i []).length ≤ 60000) (hb1 : bh.length ≤ 1001) :
    Calls Tryd.prog 98 #[.pointer (some ⟨b, 0, none⟩), .slice F f.length cF, .slice T t.length cT] w (JoinP N b al (addTo bh f t) S w) := by
  have HA : Aside0 (∃ S', Aut w N b al (addTo bh (f.take 0) t) S' ∧ Fr S w S' w) := ⟨S, h, Fr.refl _ _⟩
  have HF := Aside0.mk hf
  have HT := Aside0.mk ht
  have HFB := Aside0.mk hfb
  have HLN : Aside0 (∀ i n, ((addTo bh (f.take i) t).getD n []).length ≤ 61000) := ⟨fun i n => by
    have h1 := addTo_len t n (f.take i) bh
    have h2 := hbl n
    have h3 : (f.take i).length * t.length ≤ 30 * 30 := Nat.mul_le_mul (by rw [List.length_take]; omega) ht30
    omega⟩
  obtain ⟨tb, tof, rfl, -⟩ := ht.2 ht0
  clear h hf ht hfb hbl
  go_enter Tryd.func98, Tryd.ntmps98
  go_wp2_with fail
  go_loopw [10] (fun x wr => ∃ i : Nat, i ≤ f.length ∧ x = .int .i64 i ∧ Aside0 (∃ S', Aut wr N b al (addTo bh (f.take i) t) S' ∧ Fr S w S' wr)) (fun x _ => f.length - (intOf x).toNat)
  case atStart => exact ⟨0, by omega, rfl, HA⟩
  case round =>
    obtain ⟨wa, rfl⟩ : ∃ x, x = wr := ⟨wr, rfl⟩
    obtain ⟨i, hi, rfl, HI⟩ := hrel
    clear HA
    by_cases hin : i < f.length
    · obtain ⟨n, hn⟩ : ∃ n, f[i]? = some n := ⟨f[i]'hin, List.getElem?_eq_getElem _⟩
      obtain ⟨S1, hA, hFr⟩ := HI.out
      have hfi := hFr.ints HF.out
      have hti := hFr.ints HT.out
      obtain ⟨fb, fo, rfl, hfs, hfc⟩ := hfi.2 (by omega)
      obtain ⟨tb2, to2, he2, hts, htc⟩ := hti.2 ht0
      injection he2 with he2
      injection he2 with he21 he22
      subst he21 he22
      have hcell := hfc i n hn
      have hnb : n < (addTo bh (f.take i) t).length := by rw [addTo_length]; exact HFB.out n (List.mem_of_getElem? hn)
      have hst := addTo_take hn bh t
      obtain ⟨bh1, hbh1⟩ : ∃ l, addTo bh (f.take i) t = l := ⟨_, rfl⟩
      have hlen1 : bh1.length ≤ 1001 := by rw [← hbh1, addTo_length]; exact hb1
      have hrl := HLN.out i n
      rw [hbh1] at hA hnb hst hrl
      obtain ⟨vA, vB, inA, bs, c2, c3, c4, hV, rfl⟩ := hA
      obtain ⟨gB, cB, rfl, hgB⟩ := hV.oB.form (by omega)
      obtain ⟨u, hu⟩ : ∃ u, bs[n]? = some u := ⟨bs[n]'(by have := hV.len; omega), List.getElem?_eq_getElem _⟩
      have hrow := hV.rB n u hu
      obtain ⟨Au, cu, hus⟩ := own_slice hrow
      obtain ⟨r, hr⟩ : ∃ r, bh1.getD n [] = r := ⟨_, rfl⟩
      rw [hr] at hrow hus hst hrl
      have c1 := blk_cell hV.blk 1
      simp at c1
      have cu1 : wa.cell? ⟨gB, n, none⟩ = some u := by have := hV.oB.cells (g := gB) rfl n u hu; rwa [add_plain] at this
      subst hus
      have HV := Aside0.mk hV
      have HFR := Aside0.mk hFr
      have HST := Aside0.mk hst
      have HROW := Aside0.mk hrow
      have HU := Aside0.mk hu
      have HTC := Aside0.mk htc
      have HR := Aside0.mk hr
      have hNw : N ≤ wa.heap.size := by have := (hV.S_lt (Or.inl rfl)); omega
      have g0 : (0 : Int) ≤ (i : Int) := by omega
      have g1 : (i : Int) < (f.length : Int) := by omega
      have g2 : (0 : Int) ≤ (n : Int) := by omega
      have g3 : (n : Int) < (bh1.length : Int) := by omega
      clear hfi hti hfc htc hn hV hFr hbh1 hst hrow hu hr HI
      go_upto_region 3 with (fail)
      have hS : (fun W : World => W.cell? ⟨b, 1, none⟩ = some (.slice (some ⟨gB, 0, none⟩) bh1.length cB)) wa.drew := c1
      refine wp_region_held (S := (fun W : World => W.cell? ⟨b, 1, none⟩ = some (.slice (some ⟨gB, 0, none⟩) bh1.length cB))) (by kernel_rfl) ?_
      change wpAnyH _ _ _ _ _ _ _ _ wa.drew
      have HVd := Aside0.mk (HV.out.below (below_drew (Below.refl _ _)))
      have HFd := Aside0.mk (HFR.out.trans (Fr.of (S := ownS b vA (.slice (some ⟨gB, 0, none⟩) bh1.length cB) bs) (below_drew (Below.refl _ _))))
      have HRd : Aside0 (RowI wa.drew N (.slice Au r.length cu) r) := ⟨HROW.out⟩
      have HTd : Aside0 (∀ (j m : Nat), t[j]? = some m → wa.drew.cell? ⟨tb, tof + j, none⟩ = some (.int .i64 (m : Int))) := ⟨HTC.out⟩
      have hNd : N ≤ wa.drew.heap.size := hNw
      change wa.drew.cell? _ = _ at cu1
      generalize wa.drew = wd at hS HVd HFd HRd HTd hNd cu1 ⊢
      clear c1 HV HFR HROW HTC hNw hcell
      first | refine tkU 0 hS ?_ | (refine tkV 0 (v := ?_) hS ?_ ?_; rotate_left 1; · (intro w0 hSw; (try dsimp only at hSw); go_split_ands; go_simp; try with_reducible rfl)) | fail
      try simp only [Act.put, pL]
      first | refine tkU 1 hS ?_ | (refine tkV 1 (v := ?_) hS ?_ ?_; rotate_left 1; · (intro w0 hSw; (try dsimp only at hSw); go_split_ands; go_simp; try with_reducible rfl)) | fail
      try simp only [Act.put, pL]
      first | refine tkU 2 hS ?_ | (refine tkV 2 (v := ?_) hS ?_ ?_; rotate_left 1; · (intro w0 hSw; (try dsimp only at hSw); go_split_ands; go_simp; try with_reducible rfl)) | fail
      try simp only [Act.put, pL]
      first | refine tkU 3 hS ?_ | (refine tkV 3 (v := ?_) hS ?_ ?_; rotate_left 1; · (intro w0 hSw; (try dsimp only at hSw); go_split_ands; go_simp; try with_reducible rfl)) | fail
      try simp only [Act.put, pL]
      first | refine tkU 4 hS ?_ | (refine tkV 4 (v := ?_) hS ?_ ?_; rotate_left 1; · (intro w0 hSw; (try dsimp only at hSw); go_split_ands; go_simp; try with_reducible rfl)) | fail
      try simp only [Act.put, pL]
      first | refine tkU 5 hS ?_ | (refine tkV 5 (v := ?_) hS ?_ ?_; rotate_left 1; · (intro w0 hSw; (try dsimp only at hSw); go_split_ands; go_simp; try with_reducible rfl)) | fail
      try simp only [Act.put, pL]
      first | refine tkU 6 hS ?_ | (refine tkV 6 (v := ?_) hS ?_ ?_; rotate_left 1; · (intro w0 hSw; (try dsimp only at hSw); go_split_ands; go_simp; try with_reducible rfl)) | fail
      try simp only [Act.put, pL]
      first | refine tkU 7 hS ?_ | (refine tkV 7 (v := ?_) hS ?_ ?_; rotate_left 1; · (intro w0 hSw; (try dsimp only at hSw); go_split_ands; go_simp; try with_reducible rfl)) | fail
      try simp only [Act.put, pL]
      first | refine tkU 8 hS ?_ | (refine tkV 8 (v := ?_) hS ?_ ?_; rotate_left 1; · (intro w0 hSw; (try dsimp only at hSw); go_split_ands; go_simp; try with_reducible rfl)) | fail
      try simp only [Act.put, pL]
      first | refine tkU 9 hS ?_ | (refine tkV 9 (v := ?_) hS ?_ ?_; rotate_left 1; · (intro w0 hSw; (try dsimp only at hSw); go_split_ands; go_simp; try with_reducible rfl)) | fail
      try simp only [Act.put, pL]
      first | refine tkU 10 hS ?_ | (refine tkV 10 (v := ?_) hS ?_ ?_; rotate_left 1; · (intro w0 hSw; (try dsimp only at hSw); go_split_ands; go_simp; try with_reducible rfl)) | fail
      try simp only [Act.put, pL]
      first | refine tkU 12 hS ?_ | (refine tkV 12 (v := ?_) hS ?_ ?_; rotate_left 1; · (intro w0 hSw; (try dsimp only at hSw); go_split_ands; go_simp; try with_reducible rfl)) | fail
      try simp only [Act.put, pL]
      refine wpAnyH_ready (rs := [11]) (by kernel_rfl) (by simp) ?_
      refine AllReadyH.cons rfl (fun K hK => ?_) AllReadyH.nil
      go_simp
      refine hK.out _ _ hS (fun _ => ?_)
      clear hK K
      try simp only [Act.put, pL]
      refine wpAnyH_ready (rs := [13]) (by kernel_rfl) (by simp) ?_
      refine AllReadyH.cons rfl (fun K hK => ?_) AllReadyH.nil
      refine step_append_ints (W := wd) N (by rfl) (.tmp 25) (.tmp 26) 71 3 (by rfl) Tryd.underlying71 info_int (.slice Au r.length cu) r t (by rfl) tb tof cT (by rfl) HTd.out HRd.out hNd (by omega) ?_
      intro v4 w4 ho hg hat
      obtain ⟨A4, n4, hv4⟩ := own_slice ho
      obtain ⟨m4, hm4⟩ : ∃ m, (r ++ t).length = m := ⟨_, rfl⟩
      rw [hm4] at hv4
      subst hv4
      have hrow4 : RowI w4 N (.slice A4 m4 n4) (bh1.getD n [] ++ t) := by rw [HR.out]; exact ho
      have hbk := blk_grown HVd.out.blk hg (HVd.out.b_ne.2.2 n _ HU.out)
      have hS4 : (fun W : World => W.cell? ⟨b, 1, none⟩ = some (.slice (some ⟨gB, 0, none⟩) bh1.length cB)) w4 := (blk_cell hbk 1).trans rfl
      have hgu : some gB ≠ (Value.slice Au r.length cu).ownBlock := fun e => own_apart HVd.out.oB (HVd.out.rB n _ HU.out) (by decide) rfl e.symm
      have oB4 : w4.ownsRow N 71 1 (.slice (some ⟨gB, 0, none⟩) bh1.length cB) bh1.length bs := own_move HVd.out.oB (fun k hk => hg.block k (own_lt HVd.out.oB k hk) (fun e => hgu (by have e2 : some gB = some k := hk; rw [e2]; exact e)))
      have q0 : w4.cell? ⟨gB, n, none⟩ = some (.slice Au r.length cu) := by have := oB4.cells (g := gB) rfl n _ HU.out; rwa [add_plain] at this
      have q1 : w4.frozen? ⟨gB, n, none⟩ = false := by
        rcases oB4.2 with ⟨h', _⟩ | ⟨g', cap', cur, h', _, hh, _⟩
        · cases h'
        · have e : gB = g' := by injection h' with h'; injection h' with h'; injection h' with h'
          subst e
          simp [World.frozen?, hh]
      obtain ⟨hV5, hF5⟩ := HVd.out.addR HU.out rfl hrow4 hg hat
      have hS5 : (fun W : World => W.cell? ⟨b, 1, none⟩ = some (.slice (some ⟨gB, 0, none⟩) bh1.length cB)) (w4.setCell ⟨gB, n, none⟩ (.slice A4 m4 n4)) := (blk_cell hV5.blk 1).trans rfl
      have HV5 := Aside0.mk hV5
      have HF5 := Aside0.mk (HFd.out.trans hF5)
      refine hK.out _ _ hS4 (fun _ => ?_)
      clear hK K hV5 hF5 ho hg hat hm4 hS cu1 hbk hgu oB4 hrow4 HVd HFd HRd HTd
      try simp only [Act.put, pL]
      first | refine tkU 14 hS4 ?_ | (refine tkV 14 (v := ?_) hS4 ?_ ?_; rotate_left 1; · (intro w0 hSw; (try dsimp only at hSw); go_split_ands; go_simp; try with_reducible rfl)) | fail
      try simp only [Act.put, pL]
      refine wpAnyH_ready (rs := [15]) (by kernel_rfl) (by simp) ?_
      refine AllReadyH.cons rfl (fun K hK => ?_) AllReadyH.nil
      go_simp
      refine hK.out _ _ hS5 (fun _ => ?_)
      clear hK K hS4 q0 q1
      try simp only [Act.put, pL]
      refine wpAnyH_done (by kernel_rfl) ?_ _
      go_wp2_with fail
      go_roundw
      case rel => exact ⟨i + 1, by omega, by go_num, ⟨⟨_, ⟨_, _, _, _, _, _, _, by rw [HST.out, ← HR.out]; exact HV5.out, rfl⟩, HF5.out⟩⟩⟩
      case measure => simp [intOf]; omega
    · have HE : Aside0 (∃ S', Aut wa N b al (addTo bh f t) S' ∧ Fr S w S' wa) := ⟨by have := HI.out; rwa [List.take_of_length_le (by omega)] at this⟩
      clear HI
      go_wp2_with fail
      refine bodyPost_ret (by simp [results, Tryd.results98, go_sem]; try rfl) rfl ?_
      exact ⟨rfl, HE.out⟩
end Go.Proofs.YtbaegfjoionojaaDoor.Qa
