/- The law RingTells: of any triples and pattern how many match, which, the next number of each column. -/
import Derived.Test.YtdijaobhijmknaaRingK
import Derived.Test.YtdijaobhijmknaaOpenT
import Derived.Deep.RegionHeld3
set_option linter.unusedSimpArgs false
set_option linter.unusedVariables false
namespace Go.Proofs.Ytdijaobhijmknaa.Rg
open Go Go.RowKit Go.Proofs.YtdijaobhijmknaaW.PrintWords Go.Proofs.YtdijaobhijmknaaW.PrintLast Go.Proofs.YtdijaobhijmknaaW.PrintMore
attribute [local go_sem] max2_int min2_int max_two min_two

theorem new_no2 (A : Option Addr) (c : Nat) (ts : List Tri) (w : World) (hr : Kd.C kT w A ts.length ts) (hm : mayB ts = false) :
    Calls Try.prog 45 #[.slice A ts.length c] w fun e w' => e = .returned (.tuple #[.pointer none, .int .i64 1]) ∧ Below w.heap.size w w' := new_no A c ts w hr hm
theorem tells_long (A : Option Addr) (c : Nat) (l : List Tri) (p : Tri) (col v : Int) (w : World) (hl : 150 < l.length) :
    Calls Try.prog 13 #[.slice A l.length c, p.val, .int .i64 col, .int .i64 v] w fun e w' => e = .returned (.bool true) ∧ Below w.heap.size w w' := by
  have hl2 : (150 : Int) < (l.length : Int) := by omega
  unfold Tri.val
  clear hl
  go_enter Try.func13, Try.ntmps13
  go_wp2_with fail
  go_ret
  exact ⟨rfl, below_alloc (Below.refl _ _) _⟩
set_option maxHeartbeats 1000000 in
theorem tells_no (A : Option Addr) (c : Nat) (l : List Tri) (p : Tri) (col v : Int) (w : World) (hr : Kd.C kT w A l.length l) (hl : l.length ≤ 150) (hm : mayB l = false) :
    Calls Try.prog 13 #[.slice A l.length c, p.val, .int .i64 col, .int .i64 v] w fun e w' => e = .returned (.bool true) ∧ Below w.heap.size w w' := by
  obtain ⟨wb, hwb, HX0, HW, HWS⟩ := boxed_world w p 54
  have CN := Aside0.mk (new_no A c l wb (Kd.C_below hr HW.out) hm)
  have CM := Aside0.mk (fun w1 (hb : Below w.heap.size w w1) => refMay_any A c l w1 (Kd.C_below hr hb) (by omega))
  rw [hm] at CM
  have CK := Aside0.mk known_any
  obtain ⟨n, hn⟩ : ∃ n, n = l.length := ⟨_, rfl⟩
  rw [← hn] at CN CM hl ⊢
  have hl2 : (n : Int) ≤ 150 := by omega
  unfold Tri.val
  rw [hwb] at CN HW
  clear hr hn hm hl hwb HX0 HWS
  go_enter Try.func13, Try.ntmps13
  go_wp2_with (first
    | (go_at_call 45; (with_reducible refine CN.out.mono ?_); rintro e w1 ⟨rfl, hb⟩; have HB1 := Aside0.mk (below_step HW.out hb); clear hb)
    | (go_at_call 46; (with_reducible refine (CM.out _ HB1.out).mono ?_); rintro e w2 ⟨rfl, hb⟩; have HB2 := Aside0.mk (below_step HB1.out hb); clear hb)
    | (go_at_call 47; (with_reducible refine (CK.out _).mono ?_); rintro e w3 ⟨rfl, hb⟩; have HB3 := Aside0.mk (below_step HB2.out hb); clear hb))
  go_ret
  exact ⟨rfl, HB3.out⟩
set_option maxRecDepth 100000 in
set_option maxHeartbeats 4000000 in
theorem tells_yes (A : Option Addr) (c : Nat) (l : List Tri) (p : Tri) (col v : Int) (w : World) (hr : Kd.C kT w A l.length l) (hm : mayB l = true) :
    Calls Try.prog 13 #[.slice A l.length c, p.val, .int .i64 col, .int .i64 v] w fun e w' => e = .returned (.bool true) ∧ Below w.heap.size w w' := by
  have hl : l.length ≤ 100 := by unfold mayB at hm; simp at hm; exact hm.2
  obtain ⟨wb, hwb, HX0, HW, HWS⟩ := boxed_world w p 54
  have HL0 := Kd.C_below hr HW.out
  have CN0 := Aside0.mk (new_ok A c l wb HL0 hm)
  have CM0 := Aside0.mk (fun W (h : Kd.C kT W A l.length l) => refMay_any A c l W h (by omega))
  rw [hm] at CM0
  have CRA := Aside0.mk (fun W (h : Kd.C kT W A l.length l) => refAll_any A c l p W h (by omega))
  have CL := Aside0.mk (fun r W (h : IsL W r l) => ring_len (r := r) l W h (by omega))
  have CC := Aside0.mk (fun r W (h : IsL W r l) => ring_count (r := r) p l W h (by omega))
  have CA := Aside0.mk (fun r W (h : IsL W r l) => all_any (r := r) p l W h (by omega))
  obtain ⟨a, ha⟩ : ∃ a, a = allL l p := ⟨_, rfl⟩
  have hal : a.length ≤ 100 := by rw [ha]; exact Nat.le_trans (List.length_filter_le _ _) hl
  rw [← ha] at CRA CC CA
  have CS : Aside0 (∀ A B c d W, Kd.C kT W A a.length a → Kd.C kT W B a.length a → Calls Try.prog 51 #[.slice A a.length c, .slice B a.length d] W fun e w' => e = .returned (.bool true) ∧ Below W.heap.size W w') := ⟨fun A B c d W ha hb => by
    have := refSame_any A B c d a a W ha hb (by omega) (by omega)
    rw [decide_eq_true (rfl : a = a)] at this
    exact this⟩
  have CN := Aside0.mk (fun r W (h : IsRing W r l) => next_any (r := r) p col v l W h (by omega))
  have CM := Aside0.mk (fun A c W (h : Kd.C kT W A l.length l) => refNext_any A c l p col v W h (by omega))
  obtain ⟨x, hx⟩ : ∃ x, x = nextC l p col v := ⟨_, rfl⟩
  rw [← hx] at CN CM
  obtain ⟨n, hn⟩ : ∃ n, n = l.length := ⟨_, rfl⟩
  rw [← hn] at CN0 CM0 CRA CL CM HL0 ⊢
  obtain ⟨m, hmm⟩ : ∃ m, m = a.length := ⟨_, rfl⟩
  have hl2 : (n : Int) ≤ 150 := by omega
  have CK := Aside0.mk known_any
  have HL0 := Aside0.mk HL0
  unfold Tri.val at *
  rw [hwb] at CN0 HW HX0 HL0
  clear hr hn hm hl hwb HWS ha hx hal hmm
  go_enter Try.func13, Try.ntmps13
  go_upto_region 10 with (first
    | (go_at_call 45; (with_reducible refine CN0.out.mono ?_); rintro e w1 ⟨r, rfl, hr, _, hb⟩; have HB1 := Aside0.mk (below_step HW.out hb); have HX1 := Aside0.mk (HX0.out.below hb); have HL1 := Aside0.mk (Kd.C_below HL0.out hb); have HR1 := Aside0.mk hr; obtain ⟨rb, e5⟩ := hr.ptr; subst e5; clear hb hr)
    | (go_at_call 46; (with_reducible refine (CM0.out _ HL1.out).mono ?_); rintro e w2 ⟨rfl, hb⟩; have HB2 := Aside0.mk (below_step HB1.out hb); have HX2 := Aside0.mk (HX1.out.below hb); have HL2 := Aside0.mk (Kd.C_below HL1.out hb); have HR2 := Aside0.mk (HR1.out.below hb); obtain ⟨x0, x1, x2⟩ := HX2.out; clear hb)
    | (go_at_call 48; (with_reducible refine (CRA.out _ HL2.out).mono ?_); rintro e w3 hw; obtain ⟨A3, c3, rfl, hv, hb⟩ := row_len hw; have HA3 := Aside0.mk (Bs.reads_n hv).2.2; have HB3 := Aside0.mk (below_step HB2.out hb); have HX3 := Aside0.mk (HX2.out.below hb); have HL3 := Aside0.mk (Kd.C_below HL2.out hb); have HR3 := Aside0.mk (HR2.out.below hb); clear hw hv hb x0 x1 x2))
  have HB10 := Aside0.mk (below_drew HB3.out)
  have HX10 : Aside0 (Boxed w3.drew w.heap.size p) := ⟨HX3.out⟩
  have HL10 := Aside0.mk (Kd.C_below HL3.out (below_drew (Below.refl _ _)))
  have HA10 := Aside0.mk (Kd.C_below HA3.out (below_drew (Below.refl _ _)))
  have HR10 : Aside0 (IsRing w3.drew (.pointer (some ⟨rb, 0, none⟩)) l) := ⟨HR3.out.below (below_drew (Below.refl _ _))⟩
  have hS : (fun W : World => W.cell? ⟨w.heap.size, 0, none⟩ = some (.int .i64 p.s) ∧ W.cell? ⟨w.heap.size, 1, none⟩ = some (.int .i64 p.p) ∧ W.cell? ⟨w.heap.size, 2, none⟩ = some (.int .i64 p.o)) w3.drew := HX10.out
  refine wp_region_held (S := (fun W : World => W.cell? ⟨w.heap.size, 0, none⟩ = some (.int .i64 p.s) ∧ W.cell? ⟨w.heap.size, 1, none⟩ = some (.int .i64 p.p) ∧ W.cell? ⟨w.heap.size, 2, none⟩ = some (.int .i64 p.o))) (by kernel_rfl) ?_
  change wpAnyH _ _ _ _ _ _ _ _ w3.drew
  first
    | (refine wpAnyH_take (i := 0) (v := undef) rfl (by kernel_rfl) (by kernel_rfl) (by kernel_rfl) (fun _ _ _ h => h) (Or.inr ⟨by rfl, rfl⟩) hS ?_)
    | (refine wpAnyH_take (i := 0) (v := ?_) rfl (by kernel_rfl) (by kernel_rfl) (by kernel_rfl) (fun _ _ _ h => h) (Or.inl ⟨by rfl, ?_⟩) hS ?_
       rotate_left 1
       · (intro w0 hSw; (try dsimp only at hSw); go_split_ands; go_simp; try with_reducible rfl))
    | fail
  try simp only [Act.put, List.getElem_toArray, List.getElem_cons_succ, List.getElem_cons_zero, List.setIfInBounds_toArray, List.set_cons_zero, List.set_cons_succ]
  first
    | (refine wpAnyH_take (i := 2) (v := undef) rfl (by kernel_rfl) (by kernel_rfl) (by kernel_rfl) (fun _ _ _ h => h) (Or.inr ⟨by rfl, rfl⟩) hS ?_)
    | (refine wpAnyH_take (i := 2) (v := ?_) rfl (by kernel_rfl) (by kernel_rfl) (by kernel_rfl) (fun _ _ _ h => h) (Or.inl ⟨by rfl, ?_⟩) hS ?_
       rotate_left 1
       · (intro w0 hSw; (try dsimp only at hSw); go_split_ands; go_simp; try with_reducible rfl))
    | fail
  try simp only [Act.put, List.getElem_toArray, List.getElem_cons_succ, List.getElem_cons_zero, List.setIfInBounds_toArray, List.set_cons_zero, List.set_cons_succ]
  first
    | (refine wpAnyH_take (i := 3) (v := undef) rfl (by kernel_rfl) (by kernel_rfl) (by kernel_rfl) (fun _ _ _ h => h) (Or.inr ⟨by rfl, rfl⟩) hS ?_)
    | (refine wpAnyH_take (i := 3) (v := ?_) rfl (by kernel_rfl) (by kernel_rfl) (by kernel_rfl) (fun _ _ _ h => h) (Or.inl ⟨by rfl, ?_⟩) hS ?_
       rotate_left 1
       · (intro w0 hSw; (try dsimp only at hSw); go_split_ands; go_simp; try with_reducible rfl))
    | fail
  try simp only [Act.put, List.getElem_toArray, List.getElem_cons_succ, List.getElem_cons_zero, List.setIfInBounds_toArray, List.set_cons_zero, List.set_cons_succ]
  refine wpAnyH_ready (rs := [1]) (by kernel_rfl) (by simp) ?_
  refine AllReadyH.cons rfl (fun K hK => ?_) AllReadyH.nil
  go_simp
  refine (CL.out _ _ HR10.out.l).mono ?_
  rintro e w11 ⟨rfl, hb⟩
  have HA11 := Aside0.mk (Kd.C_below HA10.out hb)
  have HB11 := Aside0.mk (below_step HB10.out hb)
  have HX11 := Aside0.mk (HX10.out.below hb)
  have HR11 := Aside0.mk (HR10.out.below hb)
  have HL11 := Aside0.mk (Kd.C_below HL10.out hb)
  clear hb hS
  have hS : (fun W : World => W.cell? ⟨w.heap.size, 0, none⟩ = some (.int .i64 p.s) ∧ W.cell? ⟨w.heap.size, 1, none⟩ = some (.int .i64 p.p) ∧ W.cell? ⟨w.heap.size, 2, none⟩ = some (.int .i64 p.o)) w11 := HX11.out
  refine hK.out _ _ hS (fun _ => ?_)
  clear hK K
  try simp only [Act.put, List.getElem_toArray, List.getElem_cons_succ, List.getElem_cons_zero, List.setIfInBounds_toArray, List.set_cons_zero, List.set_cons_succ]
  first
    | (refine wpAnyH_take (i := 4) (v := undef) rfl (by kernel_rfl) (by kernel_rfl) (by kernel_rfl) (fun _ _ _ h => h) (Or.inr ⟨by rfl, rfl⟩) hS ?_)
    | (refine wpAnyH_take (i := 4) (v := ?_) rfl (by kernel_rfl) (by kernel_rfl) (by kernel_rfl) (fun _ _ _ h => h) (Or.inl ⟨by rfl, ?_⟩) hS ?_
       rotate_left 1
       · (intro w0 hSw; (try dsimp only at hSw); go_split_ands; go_simp; try with_reducible rfl))
    | fail
  try simp only [Act.put, List.getElem_toArray, List.getElem_cons_succ, List.getElem_cons_zero, List.setIfInBounds_toArray, List.set_cons_zero, List.set_cons_succ]
  first
    | (refine wpAnyH_take (i := 5) (v := undef) rfl (by kernel_rfl) (by kernel_rfl) (by kernel_rfl) (fun _ _ _ h => h) (Or.inr ⟨by rfl, rfl⟩) hS ?_)
    | (refine wpAnyH_take (i := 5) (v := ?_) rfl (by kernel_rfl) (by kernel_rfl) (by kernel_rfl) (fun _ _ _ h => h) (Or.inl ⟨by rfl, ?_⟩) hS ?_
       rotate_left 1
       · (intro w0 hSw; (try dsimp only at hSw); go_split_ands; go_simp; try with_reducible rfl))
    | fail
  try simp only [Act.put, List.getElem_toArray, List.getElem_cons_succ, List.getElem_cons_zero, List.setIfInBounds_toArray, List.set_cons_zero, List.set_cons_succ]
  first
    | (refine wpAnyH_take (i := 6) (v := undef) rfl (by kernel_rfl) (by kernel_rfl) (by kernel_rfl) (fun _ _ _ h => h) (Or.inr ⟨by rfl, rfl⟩) hS ?_)
    | (refine wpAnyH_take (i := 6) (v := ?_) rfl (by kernel_rfl) (by kernel_rfl) (by kernel_rfl) (fun _ _ _ h => h) (Or.inl ⟨by rfl, ?_⟩) hS ?_
       rotate_left 1
       · (intro w0 hSw; (try dsimp only at hSw); go_split_ands; go_simp; try with_reducible rfl))
    | fail
  try simp only [Act.put, List.getElem_toArray, List.getElem_cons_succ, List.getElem_cons_zero, List.setIfInBounds_toArray, List.set_cons_zero, List.set_cons_succ]
  first
    | (refine wpAnyH_take (i := 7) (v := undef) rfl (by kernel_rfl) (by kernel_rfl) (by kernel_rfl) (fun _ _ _ h => h) (Or.inr ⟨by rfl, rfl⟩) hS ?_)
    | (refine wpAnyH_take (i := 7) (v := ?_) rfl (by kernel_rfl) (by kernel_rfl) (by kernel_rfl) (fun _ _ _ h => h) (Or.inl ⟨by rfl, ?_⟩) hS ?_
       rotate_left 1
       · (intro w0 hSw; (try dsimp only at hSw); go_split_ands; go_simp; try with_reducible rfl))
    | fail
  try simp only [Act.put, List.getElem_toArray, List.getElem_cons_succ, List.getElem_cons_zero, List.setIfInBounds_toArray, List.set_cons_zero, List.set_cons_succ]
  first
    | (refine wpAnyH_take (i := 9) (v := undef) rfl (by kernel_rfl) (by kernel_rfl) (by kernel_rfl) (fun _ _ _ h => h) (Or.inr ⟨by rfl, rfl⟩) hS ?_)
    | (refine wpAnyH_take (i := 9) (v := ?_) rfl (by kernel_rfl) (by kernel_rfl) (by kernel_rfl) (fun _ _ _ h => h) (Or.inl ⟨by rfl, ?_⟩) hS ?_
       rotate_left 1
       · (intro w0 hSw; (try dsimp only at hSw); go_split_ands; go_simp; try with_reducible rfl))
    | fail
  try simp only [Act.put, List.getElem_toArray, List.getElem_cons_succ, List.getElem_cons_zero, List.setIfInBounds_toArray, List.set_cons_zero, List.set_cons_succ]
  first
    | (refine wpAnyH_take (i := 10) (v := undef) rfl (by kernel_rfl) (by kernel_rfl) (by kernel_rfl) (fun _ _ _ h => h) (Or.inr ⟨by rfl, rfl⟩) hS ?_)
    | (refine wpAnyH_take (i := 10) (v := ?_) rfl (by kernel_rfl) (by kernel_rfl) (by kernel_rfl) (fun _ _ _ h => h) (Or.inl ⟨by rfl, ?_⟩) hS ?_
       rotate_left 1
       · (intro w0 hSw; (try dsimp only at hSw); go_split_ands; go_simp; try with_reducible rfl))
    | fail
  try simp only [Act.put, List.getElem_toArray, List.getElem_cons_succ, List.getElem_cons_zero, List.setIfInBounds_toArray, List.set_cons_zero, List.set_cons_succ]
  refine wpAnyH_ready (rs := [8]) (by kernel_rfl) (by simp) ?_
  refine AllReadyH.cons rfl (fun K hK => ?_) AllReadyH.nil
  go_simp
  refine (CC.out _ _ HR11.out.l).mono ?_
  rintro e w12 ⟨rfl, hb⟩
  have HA12 := Aside0.mk (Kd.C_below HA11.out hb)
  have HB12 := Aside0.mk (below_step HB11.out hb)
  have HX12 := Aside0.mk (HX11.out.below hb)
  have HR12 := Aside0.mk (HR11.out.below hb)
  have HL12 := Aside0.mk (Kd.C_below HL11.out hb)
  clear hb hS
  have hS : (fun W : World => W.cell? ⟨w.heap.size, 0, none⟩ = some (.int .i64 p.s) ∧ W.cell? ⟨w.heap.size, 1, none⟩ = some (.int .i64 p.p) ∧ W.cell? ⟨w.heap.size, 2, none⟩ = some (.int .i64 p.o)) w12 := HX12.out
  refine hK.out _ _ hS (fun _ => ?_)
  clear hK K
  try simp only [Act.put, List.getElem_toArray, List.getElem_cons_succ, List.getElem_cons_zero, List.setIfInBounds_toArray, List.set_cons_zero, List.set_cons_succ]
  first
    | (refine wpAnyH_take (i := 11) (v := undef) rfl (by kernel_rfl) (by kernel_rfl) (by kernel_rfl) (fun _ _ _ h => h) (Or.inr ⟨by rfl, rfl⟩) hS ?_)
    | (refine wpAnyH_take (i := 11) (v := ?_) rfl (by kernel_rfl) (by kernel_rfl) (by kernel_rfl) (fun _ _ _ h => h) (Or.inl ⟨by rfl, ?_⟩) hS ?_
       rotate_left 1
       · (intro w0 hSw; (try dsimp only at hSw); go_split_ands; go_simp; try with_reducible rfl))
    | fail
  try simp only [Act.put, List.getElem_toArray, List.getElem_cons_succ, List.getElem_cons_zero, List.setIfInBounds_toArray, List.set_cons_zero, List.set_cons_succ]
  first
    | (refine wpAnyH_take (i := 12) (v := undef) rfl (by kernel_rfl) (by kernel_rfl) (by kernel_rfl) (fun _ _ _ h => h) (Or.inr ⟨by rfl, rfl⟩) hS ?_)
    | (refine wpAnyH_take (i := 12) (v := ?_) rfl (by kernel_rfl) (by kernel_rfl) (by kernel_rfl) (fun _ _ _ h => h) (Or.inl ⟨by rfl, ?_⟩) hS ?_
       rotate_left 1
       · (intro w0 hSw; (try dsimp only at hSw); go_split_ands; go_simp; try with_reducible rfl))
    | fail
  try simp only [Act.put, List.getElem_toArray, List.getElem_cons_succ, List.getElem_cons_zero, List.setIfInBounds_toArray, List.set_cons_zero, List.set_cons_succ]
  first
    | (refine wpAnyH_take (i := 13) (v := undef) rfl (by kernel_rfl) (by kernel_rfl) (by kernel_rfl) (fun _ _ _ h => h) (Or.inr ⟨by rfl, rfl⟩) hS ?_)
    | (refine wpAnyH_take (i := 13) (v := ?_) rfl (by kernel_rfl) (by kernel_rfl) (by kernel_rfl) (fun _ _ _ h => h) (Or.inl ⟨by rfl, ?_⟩) hS ?_
       rotate_left 1
       · (intro w0 hSw; (try dsimp only at hSw); go_split_ands; go_simp; try with_reducible rfl))
    | fail
  try simp only [Act.put, List.getElem_toArray, List.getElem_cons_succ, List.getElem_cons_zero, List.setIfInBounds_toArray, List.set_cons_zero, List.set_cons_succ]
  first
    | (refine wpAnyH_take (i := 14) (v := undef) rfl (by kernel_rfl) (by kernel_rfl) (by kernel_rfl) (fun _ _ _ h => h) (Or.inr ⟨by rfl, rfl⟩) hS ?_)
    | (refine wpAnyH_take (i := 14) (v := ?_) rfl (by kernel_rfl) (by kernel_rfl) (by kernel_rfl) (fun _ _ _ h => h) (Or.inl ⟨by rfl, ?_⟩) hS ?_
       rotate_left 1
       · (intro w0 hSw; (try dsimp only at hSw); go_split_ands; go_simp; try with_reducible rfl))
    | fail
  try simp only [Act.put, List.getElem_toArray, List.getElem_cons_succ, List.getElem_cons_zero, List.setIfInBounds_toArray, List.set_cons_zero, List.set_cons_succ]
  first
    | (refine wpAnyH_take (i := 15) (v := undef) rfl (by kernel_rfl) (by kernel_rfl) (by kernel_rfl) (fun _ _ _ h => h) (Or.inr ⟨by rfl, rfl⟩) hS ?_)
    | (refine wpAnyH_take (i := 15) (v := ?_) rfl (by kernel_rfl) (by kernel_rfl) (by kernel_rfl) (fun _ _ _ h => h) (Or.inl ⟨by rfl, ?_⟩) hS ?_
       rotate_left 1
       · (intro w0 hSw; (try dsimp only at hSw); go_split_ands; go_simp; try with_reducible rfl))
    | fail
  try simp only [Act.put, List.getElem_toArray, List.getElem_cons_succ, List.getElem_cons_zero, List.setIfInBounds_toArray, List.set_cons_zero, List.set_cons_succ]
  first
    | (refine wpAnyH_take (i := 17) (v := undef) rfl (by kernel_rfl) (by kernel_rfl) (by kernel_rfl) (fun _ _ _ h => h) (Or.inr ⟨by rfl, rfl⟩) hS ?_)
    | (refine wpAnyH_take (i := 17) (v := ?_) rfl (by kernel_rfl) (by kernel_rfl) (by kernel_rfl) (fun _ _ _ h => h) (Or.inl ⟨by rfl, ?_⟩) hS ?_
       rotate_left 1
       · (intro w0 hSw; (try dsimp only at hSw); go_split_ands; go_simp; try with_reducible rfl))
    | fail
  try simp only [Act.put, List.getElem_toArray, List.getElem_cons_succ, List.getElem_cons_zero, List.setIfInBounds_toArray, List.set_cons_zero, List.set_cons_succ]
  refine wpAnyH_ready (rs := [16]) (by kernel_rfl) (by simp) ?_
  refine AllReadyH.cons rfl (fun K hK => ?_) AllReadyH.nil
  go_simp
  refine (CA.out _ _ HR12.out.l).mono ?_
  rintro e w13 hw
  obtain ⟨A13, c13, rfl, hv, hb⟩ := row_len hw
  have HV13 := Aside0.mk (Bs.reads_n hv).2.2
  have HB13 := Aside0.mk (below_step HB12.out hb)
  have HX13 := Aside0.mk (HX12.out.below hb)
  have HR13 := Aside0.mk (HR12.out.below hb)
  have HL13 := Aside0.mk (Kd.C_below HL12.out hb)
  have HA13 := Aside0.mk (Kd.C_below HA12.out hb)
  clear hw hv hb hS
  have hS : (fun W : World => W.cell? ⟨w.heap.size, 0, none⟩ = some (.int .i64 p.s) ∧ W.cell? ⟨w.heap.size, 1, none⟩ = some (.int .i64 p.p) ∧ W.cell? ⟨w.heap.size, 2, none⟩ = some (.int .i64 p.o)) w13 := HX13.out
  refine hK.out _ _ hS (fun _ => ?_)
  clear hK K
  try simp only [Act.put, List.getElem_toArray, List.getElem_cons_succ, List.getElem_cons_zero, List.setIfInBounds_toArray, List.set_cons_zero, List.set_cons_succ]
  refine wpAnyH_ready (rs := [18]) (by kernel_rfl) (by simp) ?_
  refine AllReadyH.cons rfl (fun K hK => ?_) AllReadyH.nil
  go_simp
  refine (CS.out _ _ _ _ _ HV13.out HA13.out).mono ?_
  rintro e w14 ⟨rfl, hb⟩
  have HB14 := Aside0.mk (below_step HB13.out hb)
  have HX14 := Aside0.mk (HX13.out.below hb)
  have HR14 := Aside0.mk (HR13.out.below hb)
  have HL14 := Aside0.mk (Kd.C_below HL13.out hb)
  clear hb hS
  have hS : (fun W : World => W.cell? ⟨w.heap.size, 0, none⟩ = some (.int .i64 p.s) ∧ W.cell? ⟨w.heap.size, 1, none⟩ = some (.int .i64 p.p) ∧ W.cell? ⟨w.heap.size, 2, none⟩ = some (.int .i64 p.o)) w14 := HX14.out
  refine hK.out _ _ hS (fun _ => ?_)
  clear hK K
  try simp only [Act.put, List.getElem_toArray, List.getElem_cons_succ, List.getElem_cons_zero, List.setIfInBounds_toArray, List.set_cons_zero, List.set_cons_succ]
  first
    | (refine wpAnyH_take (i := 19) (v := undef) rfl (by kernel_rfl) (by kernel_rfl) (by kernel_rfl) (fun _ _ _ h => h) (Or.inr ⟨by rfl, rfl⟩) hS ?_)
    | (refine wpAnyH_take (i := 19) (v := ?_) rfl (by kernel_rfl) (by kernel_rfl) (by kernel_rfl) (fun _ _ _ h => h) (Or.inl ⟨by rfl, ?_⟩) hS ?_
       rotate_left 1
       · (intro w0 hSw; (try dsimp only at hSw); go_split_ands; go_simp; try with_reducible rfl))
    | fail
  try simp only [Act.put, List.getElem_toArray, List.getElem_cons_succ, List.getElem_cons_zero, List.setIfInBounds_toArray, List.set_cons_zero, List.set_cons_succ]
  first
    | (refine wpAnyH_take (i := 20) (v := undef) rfl (by kernel_rfl) (by kernel_rfl) (by kernel_rfl) (fun _ _ _ h => h) (Or.inr ⟨by rfl, rfl⟩) hS ?_)
    | (refine wpAnyH_take (i := 20) (v := ?_) rfl (by kernel_rfl) (by kernel_rfl) (by kernel_rfl) (fun _ _ _ h => h) (Or.inl ⟨by rfl, ?_⟩) hS ?_
       rotate_left 1
       · (intro w0 hSw; (try dsimp only at hSw); go_split_ands; go_simp; try with_reducible rfl))
    | fail
  try simp only [Act.put, List.getElem_toArray, List.getElem_cons_succ, List.getElem_cons_zero, List.setIfInBounds_toArray, List.set_cons_zero, List.set_cons_succ]
  first
    | (refine wpAnyH_take (i := 21) (v := undef) rfl (by kernel_rfl) (by kernel_rfl) (by kernel_rfl) (fun _ _ _ h => h) (Or.inr ⟨by rfl, rfl⟩) hS ?_)
    | (refine wpAnyH_take (i := 21) (v := ?_) rfl (by kernel_rfl) (by kernel_rfl) (by kernel_rfl) (fun _ _ _ h => h) (Or.inl ⟨by rfl, ?_⟩) hS ?_
       rotate_left 1
       · (intro w0 hSw; (try dsimp only at hSw); go_split_ands; go_simp; try with_reducible rfl))
    | fail
  try simp only [Act.put, List.getElem_toArray, List.getElem_cons_succ, List.getElem_cons_zero, List.setIfInBounds_toArray, List.set_cons_zero, List.set_cons_succ]
  first
    | (refine wpAnyH_take (i := 22) (v := undef) rfl (by kernel_rfl) (by kernel_rfl) (by kernel_rfl) (fun _ _ _ h => h) (Or.inr ⟨by rfl, rfl⟩) hS ?_)
    | (refine wpAnyH_take (i := 22) (v := ?_) rfl (by kernel_rfl) (by kernel_rfl) (by kernel_rfl) (fun _ _ _ h => h) (Or.inl ⟨by rfl, ?_⟩) hS ?_
       rotate_left 1
       · (intro w0 hSw; (try dsimp only at hSw); go_split_ands; go_simp; try with_reducible rfl))
    | fail
  try simp only [Act.put, List.getElem_toArray, List.getElem_cons_succ, List.getElem_cons_zero, List.setIfInBounds_toArray, List.set_cons_zero, List.set_cons_succ]
  first
    | (refine wpAnyH_take (i := 23) (v := undef) rfl (by kernel_rfl) (by kernel_rfl) (by kernel_rfl) (fun _ _ _ h => h) (Or.inr ⟨by rfl, rfl⟩) hS ?_)
    | (refine wpAnyH_take (i := 23) (v := ?_) rfl (by kernel_rfl) (by kernel_rfl) (by kernel_rfl) (fun _ _ _ h => h) (Or.inl ⟨by rfl, ?_⟩) hS ?_
       rotate_left 1
       · (intro w0 hSw; (try dsimp only at hSw); go_split_ands; go_simp; try with_reducible rfl))
    | fail
  try simp only [Act.put, List.getElem_toArray, List.getElem_cons_succ, List.getElem_cons_zero, List.setIfInBounds_toArray, List.set_cons_zero, List.set_cons_succ]
  first
    | (refine wpAnyH_take (i := 24) (v := undef) rfl (by kernel_rfl) (by kernel_rfl) (by kernel_rfl) (fun _ _ _ h => h) (Or.inr ⟨by rfl, rfl⟩) hS ?_)
    | (refine wpAnyH_take (i := 24) (v := ?_) rfl (by kernel_rfl) (by kernel_rfl) (by kernel_rfl) (fun _ _ _ h => h) (Or.inl ⟨by rfl, ?_⟩) hS ?_
       rotate_left 1
       · (intro w0 hSw; (try dsimp only at hSw); go_split_ands; go_simp; try with_reducible rfl))
    | fail
  try simp only [Act.put, List.getElem_toArray, List.getElem_cons_succ, List.getElem_cons_zero, List.setIfInBounds_toArray, List.set_cons_zero, List.set_cons_succ]
  first
    | (refine wpAnyH_take (i := 26) (v := undef) rfl (by kernel_rfl) (by kernel_rfl) (by kernel_rfl) (fun _ _ _ h => h) (Or.inr ⟨by rfl, rfl⟩) hS ?_)
    | (refine wpAnyH_take (i := 26) (v := ?_) rfl (by kernel_rfl) (by kernel_rfl) (by kernel_rfl) (fun _ _ _ h => h) (Or.inl ⟨by rfl, ?_⟩) hS ?_
       rotate_left 1
       · (intro w0 hSw; (try dsimp only at hSw); go_split_ands; go_simp; try with_reducible rfl))
    | fail
  try simp only [Act.put, List.getElem_toArray, List.getElem_cons_succ, List.getElem_cons_zero, List.setIfInBounds_toArray, List.set_cons_zero, List.set_cons_succ]
  first
    | (refine wpAnyH_take (i := 27) (v := undef) rfl (by kernel_rfl) (by kernel_rfl) (by kernel_rfl) (fun _ _ _ h => h) (Or.inr ⟨by rfl, rfl⟩) hS ?_)
    | (refine wpAnyH_take (i := 27) (v := ?_) rfl (by kernel_rfl) (by kernel_rfl) (by kernel_rfl) (fun _ _ _ h => h) (Or.inl ⟨by rfl, ?_⟩) hS ?_
       rotate_left 1
       · (intro w0 hSw; (try dsimp only at hSw); go_split_ands; go_simp; try with_reducible rfl))
    | fail
  try simp only [Act.put, List.getElem_toArray, List.getElem_cons_succ, List.getElem_cons_zero, List.setIfInBounds_toArray, List.set_cons_zero, List.set_cons_succ]
  first
    | (refine wpAnyH_take (i := 28) (v := undef) rfl (by kernel_rfl) (by kernel_rfl) (by kernel_rfl) (fun _ _ _ h => h) (Or.inr ⟨by rfl, rfl⟩) hS ?_)
    | (refine wpAnyH_take (i := 28) (v := ?_) rfl (by kernel_rfl) (by kernel_rfl) (by kernel_rfl) (fun _ _ _ h => h) (Or.inl ⟨by rfl, ?_⟩) hS ?_
       rotate_left 1
       · (intro w0 hSw; (try dsimp only at hSw); go_split_ands; go_simp; try with_reducible rfl))
    | fail
  try simp only [Act.put, List.getElem_toArray, List.getElem_cons_succ, List.getElem_cons_zero, List.setIfInBounds_toArray, List.set_cons_zero, List.set_cons_succ]
  first
    | (refine wpAnyH_take (i := 29) (v := undef) rfl (by kernel_rfl) (by kernel_rfl) (by kernel_rfl) (fun _ _ _ h => h) (Or.inr ⟨by rfl, rfl⟩) hS ?_)
    | (refine wpAnyH_take (i := 29) (v := ?_) rfl (by kernel_rfl) (by kernel_rfl) (by kernel_rfl) (fun _ _ _ h => h) (Or.inl ⟨by rfl, ?_⟩) hS ?_
       rotate_left 1
       · (intro w0 hSw; (try dsimp only at hSw); go_split_ands; go_simp; try with_reducible rfl))
    | fail
  try simp only [Act.put, List.getElem_toArray, List.getElem_cons_succ, List.getElem_cons_zero, List.setIfInBounds_toArray, List.set_cons_zero, List.set_cons_succ]
  refine wpAnyH_ready (rs := [25]) (by kernel_rfl) (by simp) ?_
  refine AllReadyH.cons rfl (fun K hK => ?_) AllReadyH.nil
  go_simp
  refine (CN.out _ _ HR14.out).mono ?_
  rintro e w15 ⟨rfl, hb⟩
  have HB15 := Aside0.mk (below_step HB14.out hb)
  have HX15 := Aside0.mk (HX14.out.below hb)
  have HR15 := Aside0.mk (HR14.out.below hb)
  have HL15 := Aside0.mk (Kd.C_below HL14.out hb)
  clear hb hS
  have hS : (fun W : World => W.cell? ⟨w.heap.size, 0, none⟩ = some (.int .i64 p.s) ∧ W.cell? ⟨w.heap.size, 1, none⟩ = some (.int .i64 p.p) ∧ W.cell? ⟨w.heap.size, 2, none⟩ = some (.int .i64 p.o)) w15 := HX15.out
  refine hK.out _ _ hS (fun _ => ?_)
  clear hK K
  try simp only [Act.put, List.getElem_toArray, List.getElem_cons_succ, List.getElem_cons_zero, List.setIfInBounds_toArray, List.set_cons_zero, List.set_cons_succ]
  refine wpAnyH_ready (rs := [30]) (by kernel_rfl) (by simp) ?_
  refine AllReadyH.cons rfl (fun K hK => ?_) AllReadyH.nil
  go_simp
  refine (CM.out _ _ _ HL15.out).mono ?_
  rintro e w16 ⟨rfl, hb⟩
  have HB16 := Aside0.mk (below_step HB15.out hb)
  have HX16 := Aside0.mk (HX15.out.below hb)
  have HR16 := Aside0.mk (HR15.out.below hb)
  have HL16 := Aside0.mk (Kd.C_below HL15.out hb)
  clear hb hS
  have hS : (fun W : World => W.cell? ⟨w.heap.size, 0, none⟩ = some (.int .i64 p.s) ∧ W.cell? ⟨w.heap.size, 1, none⟩ = some (.int .i64 p.p) ∧ W.cell? ⟨w.heap.size, 2, none⟩ = some (.int .i64 p.o)) w16 := HX16.out
  refine hK.out _ _ hS (fun _ => ?_)
  clear hK K
  try simp only [Act.put, List.getElem_toArray, List.getElem_cons_succ, List.getElem_cons_zero, List.setIfInBounds_toArray, List.set_cons_zero, List.set_cons_succ]
  first
    | (refine wpAnyH_take (i := 31) (v := undef) rfl (by kernel_rfl) (by kernel_rfl) (by kernel_rfl) (fun _ _ _ h => h) (Or.inr ⟨by rfl, rfl⟩) hS ?_)
    | (refine wpAnyH_take (i := 31) (v := ?_) rfl (by kernel_rfl) (by kernel_rfl) (by kernel_rfl) (fun _ _ _ h => h) (Or.inl ⟨by rfl, ?_⟩) hS ?_
       rotate_left 1
       · (intro w0 hSw; (try dsimp only at hSw); go_split_ands; go_simp; try with_reducible rfl))
    | fail
  try simp only [Act.put, List.getElem_toArray, List.getElem_cons_succ, List.getElem_cons_zero, List.setIfInBounds_toArray, List.set_cons_zero, List.set_cons_succ]
  first
    | (refine wpAnyH_take (i := 32) (v := undef) rfl (by kernel_rfl) (by kernel_rfl) (by kernel_rfl) (fun _ _ _ h => h) (Or.inr ⟨by rfl, rfl⟩) hS ?_)
    | (refine wpAnyH_take (i := 32) (v := ?_) rfl (by kernel_rfl) (by kernel_rfl) (by kernel_rfl) (fun _ _ _ h => h) (Or.inl ⟨by rfl, ?_⟩) hS ?_
       rotate_left 1
       · (intro w0 hSw; (try dsimp only at hSw); go_split_ands; go_simp; try with_reducible rfl))
    | fail
  try simp only [Act.put, List.getElem_toArray, List.getElem_cons_succ, List.getElem_cons_zero, List.setIfInBounds_toArray, List.set_cons_zero, List.set_cons_succ]
  first
    | (refine wpAnyH_take (i := 33) (v := undef) rfl (by kernel_rfl) (by kernel_rfl) (by kernel_rfl) (fun _ _ _ h => h) (Or.inr ⟨by rfl, rfl⟩) hS ?_)
    | (refine wpAnyH_take (i := 33) (v := ?_) rfl (by kernel_rfl) (by kernel_rfl) (by kernel_rfl) (fun _ _ _ h => h) (Or.inl ⟨by rfl, ?_⟩) hS ?_
       rotate_left 1
       · (intro w0 hSw; (try dsimp only at hSw); go_split_ands; go_simp; try with_reducible rfl))
    | fail
  try simp only [Act.put, List.getElem_toArray, List.getElem_cons_succ, List.getElem_cons_zero, List.setIfInBounds_toArray, List.set_cons_zero, List.set_cons_succ]
  refine wpAnyH_ready (rs := [34]) (by kernel_rfl) (by simp) ?_
  refine AllReadyH.cons rfl (fun K hK => ?_) AllReadyH.nil
  go_simp
  refine (CK.out _).mono ?_
  rintro e w17 ⟨rfl, hb⟩
  have HB17 := Aside0.mk (below_step HB16.out hb)
  have HX17 := Aside0.mk (HX16.out.below hb)
  have HR17 := Aside0.mk (HR16.out.below hb)
  have HL17 := Aside0.mk (Kd.C_below HL16.out hb)
  clear hb hS
  have hS : (fun W : World => W.cell? ⟨w.heap.size, 0, none⟩ = some (.int .i64 p.s) ∧ W.cell? ⟨w.heap.size, 1, none⟩ = some (.int .i64 p.p) ∧ W.cell? ⟨w.heap.size, 2, none⟩ = some (.int .i64 p.o)) w17 := HX17.out
  refine hK.out _ _ hS (fun _ => ?_)
  clear hK K
  try simp only [Act.put, List.getElem_toArray, List.getElem_cons_succ, List.getElem_cons_zero, List.setIfInBounds_toArray, List.set_cons_zero, List.set_cons_succ]
  first
    | (refine wpAnyH_take (i := 35) (v := undef) rfl (by kernel_rfl) (by kernel_rfl) (by kernel_rfl) (fun _ _ _ h => h) (Or.inr ⟨by rfl, rfl⟩) hS ?_)
    | (refine wpAnyH_take (i := 35) (v := ?_) rfl (by kernel_rfl) (by kernel_rfl) (by kernel_rfl) (fun _ _ _ h => h) (Or.inl ⟨by rfl, ?_⟩) hS ?_
       rotate_left 1
       · (intro w0 hSw; (try dsimp only at hSw); go_split_ands; go_simp; try with_reducible rfl))
    | fail
  try simp only [Act.put, List.getElem_toArray, List.getElem_cons_succ, List.getElem_cons_zero, List.setIfInBounds_toArray, List.set_cons_zero, List.set_cons_succ]
  first
    | (refine wpAnyH_take (i := 36) (v := undef) rfl (by kernel_rfl) (by kernel_rfl) (by kernel_rfl) (fun _ _ _ h => h) (Or.inr ⟨by rfl, rfl⟩) hS ?_)
    | (refine wpAnyH_take (i := 36) (v := ?_) rfl (by kernel_rfl) (by kernel_rfl) (by kernel_rfl) (fun _ _ _ h => h) (Or.inl ⟨by rfl, ?_⟩) hS ?_
       rotate_left 1
       · (intro w0 hSw; (try dsimp only at hSw); go_split_ands; go_simp; try with_reducible rfl))
    | fail
  try simp only [Act.put, List.getElem_toArray, List.getElem_cons_succ, List.getElem_cons_zero, List.setIfInBounds_toArray, List.set_cons_zero, List.set_cons_succ]
  refine wpAnyH_done (by kernel_rfl) ?_ _
  go_wp2_with fail
  go_ret
  exact ⟨rfl, HB17.out⟩
theorem tells_law (A : Option Addr) (c : Nat) (l : List Tri) (p : Tri) (col v : Int) (w : World) (hr : Kd.C kT w A l.length l) (_hc : l.length ≤ c) (_hw : ∀ t ∈ l, t.wf) (_hp : p.wf) (_h1 : (Lit.int .i64 col).wf = true) (_h2 : (Lit.int .i64 v).wf = true) :
    Calls Try.prog 13 #[.slice A l.length c, p.val, .int .i64 col, .int .i64 v] w fun e w' => e = .returned (.bool true) ∧ Below w.heap.size w w' := by
  by_cases hl : 150 < l.length
  · exact tells_long A c l p col v w hl
  · cases hm : mayB l with
    | true => exact tells_yes A c l p col v w hr hm
    | false => exact tells_no A c l p col v w hr (by omega) hm
end Go.Proofs.Ytdijaobhijmknaa.Rg
