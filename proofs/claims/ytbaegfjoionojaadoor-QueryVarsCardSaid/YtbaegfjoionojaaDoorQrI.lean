/- The walks of the reference's Kids, may and IsPath. -/
import Derived.Test.YtbaegfjoionojaaDoorQyU
import Derived.Test.YtbaegfjoionojaaDoorTmG
set_option linter.unusedSimpArgs false
set_option linter.unusedVariables false
namespace Go.Proofs.YtbaegfjoionojaaDoor.Qy
open Go Go.RowKit Go.Proofs.YtbaegfjoionojaaDoor.Tm Go.Proofs.YtbaegfjoionojaaDoorW.PrintWords

/-- How many paths are in it; -1: it may not be. -/
def mayZ (p : Pth) (d : Nat) : Int := match countP p d with
  | none => -1
  | some n => (n : Int)
theorem may_no {k : Int} {t : ByteArray} {ts : List ByteArray} {ks : List Pth} {d : Nat} (h : hereB k t ts ks.length d = false) : mayZ (.mk k t ts ks) d = -1 := by
  unfold mayZ countP
  rw [h]; rfl
theorem may_kid {k : Int} {t : ByteArray} {ts : List ByteArray} {ks : List Pth} {d : Nat} (h : countL ks (d + 1) = none) : mayZ (.mk k t ts ks) d = -1 := by
  unfold mayZ countP
  rw [h]
  split <;> rename_i he <;> split at he <;> first | rfl | cases he
theorem may_yes {k : Int} {t : ByteArray} {ts : List ByteArray} {ks : List Pth} {d n : Nat} (hh : hereB k t ts ks.length d = true) (h : countL ks (d + 1) = some n) : mayZ (.mk k t ts ks) d = 1 + (n : Int) := by
  unfold mayZ countP
  rw [hh, if_pos rfl, h]
  show ((n + 1 : Nat) : Int) = _
  omega
theorem countL_none {l : List Pth} {d j : Nat} {q : Pth} (hq : l[j]? = some q) (h : countP q d = none) : countL l d = none := by
  induction l generalizing j with
  | nil => cases hq
  | cons p l ih =>
    unfold countL
    cases j with
    | zero =>
      obtain rfl : p = q := by simpa using hq
      rw [h]
    | succ j =>
      rw [ih (j := j) (by simpa using hq)]
      cases countP p d <;> rfl
theorem countL_of {l : List Pth} {d : Nat} (h : ∀ (j : Nat) (q : Pth), l[j]? = some q → countP q d ≠ none) : countL l d = some ((l.map (cnt d)).sum) := by
  induction l with
  | nil => rfl
  | cons p l ih =>
    have h0 := h 0 p rfl
    unfold countL
    cases hp : countP p d with
    | none => exact absurd hp h0
    | some n =>
      rw [ih (fun j q hq => h (j + 1) q hq)]
      simp only [Option.map_some, List.map_cons, List.sum_cons]
      unfold cnt
      rw [hp]; rfl
theorem count_lt : ∀ (p : Pth) (d n : Nat), countP p d = some n → d ≤ 5 ∧ n + 1 ≤ 2 ^ (6 - d) := by
  intro p
  induction p using Pth.ind with
  | h k t ts ks ih =>
  intro d n h
  obtain ⟨hh, m, hm, rfl⟩ := count_mk h
  obtain ⟨h1, h2, h3, h4⟩ := here_kind hh
  refine ⟨h1, ?_⟩
  have hp : 2 ≤ 2 ^ (6 - d) := by
    obtain ⟨e, he⟩ : ∃ e, 6 - d = e + 1 := ⟨5 - d, by omega⟩
    rw [he, Nat.pow_succ]
    have := Nat.one_le_two_pow (n := e)
    omega
  have hs : ∀ a : Nat, d + 1 ≤ 5 → a + 1 ≤ 2 ^ (6 - (d + 1)) → 2 * a + 2 ≤ 2 ^ (6 - d) := fun a h6 ha => by
    rw [show 6 - d = (6 - (d + 1)) + 1 by omega, Nat.pow_succ]; omega
  rcases kinds_of h2 with ⟨rfl, hk⟩ | ⟨rfl, hk⟩ | ⟨rfl, hk⟩ | ⟨rfl, hk⟩ | ⟨rfl, hk⟩ | ⟨rfl, hk⟩ | ⟨rfl, hk⟩ | ⟨rfl, hk⟩
  · obtain rfl := List.eq_nil_of_length_eq_zero hk
    simp [countL] at hm; omega
  · obtain rfl := List.eq_nil_of_length_eq_zero hk
    simp [countL] at hm; omega
  all_goals first
    | (obtain ⟨q, rfl⟩ := list1 hk
       obtain ⟨a1, a2⟩ := ih q (by simp) _ _ (count_one hm)
       have := hs _ a1 a2
       omega)
    | (obtain ⟨q, q2, rfl⟩ := list2 hk
       obtain ⟨a, b, ha, hb, rfl⟩ := count_two hm
       obtain ⟨a1, a2⟩ := ih q (by simp) _ _ ha
       obtain ⟨b1, b2⟩ := ih q2 (by simp) _ _ hb
       have := hs _ a1 a2
       have := hs _ b1 b2
       omega)
theorem count_63 {p : Pth} {d n : Nat} (h : countP p d = some n) : n ≤ 63 := by
  obtain ⟨h1, h2⟩ := count_lt p d n h
  have : 2 ^ (6 - d) ≤ 2 ^ 6 := Nat.pow_le_pow_right (by decide) (by omega)
  omega
theorem cnt_63 (d : Nat) (q : Pth) : cnt d q ≤ 63 := by
  unfold cnt
  cases h : countP q d with
  | none => simp
  | some n => have := count_63 h; simpa using this
theorem pre_63 (d : Nat) (l : List Pth) : ∀ i, i ≤ l.length → pre d l i ≤ 63 * i
  | 0, _ => by simp [pre]
  | i + 1, h => by
    have := pre_63 d l i (by omega)
    have e : l[i]? = some (l[i]'(by omega)) := List.getElem?_eq_getElem _
    rw [pre_step e]
    have := cnt_63 d (l[i]'(by omega))
    omega
theorem ret_z {a b : Int} (h : a = b) : Ending.returned (.int .i64 a) = .returned (.int .i64 b) := by rw [h]
def MayC (fn : Nat) (p : Pth) : Prop := ∀ (d : Nat), d ≤ 100 → (∃ f, bigP p f = false) → ∀ (w : World) (ok : Nat → Prop) (k : Int) (t : ByteArray) (A : Option Addr) (n c : Nat) (B : Option Addr) (m e : Nat), PathAt w ok p [.int .i64 k, .string t, .slice A n c, .slice B m e] → Tabs w →
  Calls Tryd.prog fn #[.agg #[.int .i64 k, .string t, .slice A n c, .slice B m e], .int .i64 (d : Int)] w fun e w' => e = .returned (.int .i64 (mayZ p d)) ∧ Below w.heap.size w w'
set_option maxRecDepth 100000 in
set_option maxHeartbeats 8000000 in
theorem refKids_any (k : Int) (w : World) : Calls Tryd.prog 84 #[.int .i64 k] w fun e w' => e = .returned (.int .i64 (kidsN k)) ∧ w' = w := by
  by_cases h1 : k = 1
  · subst h1
    go_enter Tryd.func84, Tryd.ntmps84
    go_wp2_with fail
    go_ret
    exact ⟨rfl, rfl⟩
  by_cases h8 : k = 8
  · subst h8
    go_enter Tryd.func84, Tryd.ntmps84
    go_wp2_with fail
    go_ret
    exact ⟨rfl, rfl⟩
  by_cases h2 : k = 2
  · subst h2
    go_enter Tryd.func84, Tryd.ntmps84
    go_wp2_with fail
    go_ret
    exact ⟨rfl, rfl⟩
  by_cases h5 : k = 5
  · subst h5
    go_enter Tryd.func84, Tryd.ntmps84
    go_wp2_with fail
    go_ret
    exact ⟨rfl, rfl⟩
  by_cases h6 : k = 6
  · subst h6
    go_enter Tryd.func84, Tryd.ntmps84
    go_wp2_with fail
    go_ret
    exact ⟨rfl, rfl⟩
  by_cases h7 : k = 7
  · subst h7
    go_enter Tryd.func84, Tryd.ntmps84
    go_wp2_with fail
    go_ret
    exact ⟨rfl, rfl⟩
  by_cases h3 : k = 3
  · subst h3
    go_enter Tryd.func84, Tryd.ntmps84
    go_wp2_with fail
    go_ret
    exact ⟨rfl, rfl⟩
  by_cases h4 : k = 4
  · subst h4
    go_enter Tryd.func84, Tryd.ntmps84
    go_wp2_with fail
    go_ret
    exact ⟨rfl, rfl⟩
  have e1 : (k == 1) = false := by rw [beq_eq_false_iff_ne]; exact h1
  have e8 : (k == 8) = false := by rw [beq_eq_false_iff_ne]; exact h8
  have e2 : (k == 2) = false := by rw [beq_eq_false_iff_ne]; exact h2
  have e5 : (k == 5) = false := by rw [beq_eq_false_iff_ne]; exact h5
  have e6 : (k == 6) = false := by rw [beq_eq_false_iff_ne]; exact h6
  have e7 : (k == 7) = false := by rw [beq_eq_false_iff_ne]; exact h7
  have e3 : (k == 3) = false := by rw [beq_eq_false_iff_ne]; exact h3
  have e4 : (k == 4) = false := by rw [beq_eq_false_iff_ne]; exact h4
  have HK : Aside0 (kidsN k = -1) := ⟨by unfold kidsN; rw [if_neg (by omega), if_neg (by omega), if_neg (by omega)]⟩
  clear h1 h2 h3 h4 h5 h6 h7 h8
  go_enter Tryd.func84, Tryd.ntmps84
  go_wp2_with fail
  go_ret
  exact ⟨by rw [HK.out]; rfl, rfl⟩
set_option maxRecDepth 100000 in
set_option maxHeartbeats 8000000 in
theorem may_A (k : Int) (t : ByteArray) (ts : List ByteArray) (ks : List Pth) (d : Nat) (hd100 : d ≤ 100) (hk : (ks.length : Int) ≠ kidsN k) (w : World) (ok : Nat → Prop) (k9 : Int) (t9 : ByteArray) (A : Option Addr) (n9 c : Nat) (B : Option Addr) (m9 e : Nat)
    (hp : PathAt w ok (.mk k t ts ks) [.int .i64 k9, .string t9, .slice A n9 c, .slice B m9 e]) (hT : Tabs w) :
    Calls Tryd.prog 52 #[.agg #[.int .i64 k9, .string t9, .slice A n9 c, .slice B m9 e], .int .i64 (d : Int)] w fun e w' => e = .returned (.int .i64 (mayZ (.mk k t ts ks) d)) ∧ Below w.heap.size w w' := by
  obtain ⟨A1, c1, B1, d1, e0, -, -, hkl, hts, hks⟩ := path_cells hp
  simp only [List.cons.injEq, Value.int.injEq, Value.string.injEq, Value.slice.injEq, true_and, and_true, List.length_nil] at e0
  obtain ⟨e1, e2, ⟨e3, e4, e5⟩, e6, e7, e8⟩ := e0
  have e1 := e1.symm
  have e2 := e2.symm
  subst e1 e2 e3 e4 e5 e6 e7 e8
  obtain ⟨wb, hwb, HB, HN⟩ := boxP w k t A ts.length c B ks.length e
  have HHW : Aside0 (w.alloc (.cells #[.int .i64 k, .string t, .slice A ts.length c, .slice B ks.length e] 25) = wb) := ⟨hwb.symm⟩
  have HTb := Aside0.mk (hT.below HB.out)
  have HTS : Aside0 (TsAt wb ok A ts) := ⟨hts.move (fun g _ hg => HB.out.block g hg)⟩
  have HKS := Aside0.mk (KidsAt.move (w := w) (w1 := wb) (fun g _ hg => HB.out.block g hg) ks hks)
  have HS : Aside0 (∀ W, Below wb.heap.size wb W → (fun W : World => W.cell? ⟨w.heap.size, 0, none⟩ = some (.int .i64 k) ∧ W.cell? ⟨w.heap.size, 1, none⟩ = some (.string t) ∧ W.cell? ⟨w.heap.size, 2, none⟩ = some (.slice A ts.length c) ∧ W.cell? ⟨w.heap.size, 3, none⟩ = some (.slice B ks.length e)) W) := ⟨fun W h => ⟨(blk_cell (blk_below HN.out h) 0).trans rfl, (blk_cell (blk_below HN.out h) 1).trans rfl, (blk_cell (blk_below HN.out h) 2).trans rfl, (blk_cell (blk_below HN.out h) 3).trans rfl⟩⟩
  clear hwb hp hts hks hT
  have HE : Aside0 (mayZ (.mk k t ts ks) d = -1) := ⟨may_no (by unfold hereB; rw [decide_eq_false hk]; simp)⟩
  obtain ⟨KN, hKN⟩ : ∃ z, kidsN k = z := ⟨_, rfl⟩
  rw [hKN] at hk
  have nK : (KN != (ks.length : Int)) = true := by rw [bne_iff_ne]; omega
  have CK : Aside0 (∀ W, Calls Tryd.prog 84 #[.int .i64 k] W fun e w' => e = .returned (.int .i64 KN) ∧ w' = W) := ⟨fun W => by
    have := refKids_any k W
    rwa [hKN] at this⟩
  clear hk hKN
  go_enter Tryd.func52, Tryd.ntmps52
  go_upto_region 1 with (fail)
  rw [HHW.out]
  have hS : (fun W : World => W.cell? ⟨w.heap.size, 0, none⟩ = some (.int .i64 k) ∧ W.cell? ⟨w.heap.size, 1, none⟩ = some (.string t) ∧ W.cell? ⟨w.heap.size, 2, none⟩ = some (.slice A ts.length c) ∧ W.cell? ⟨w.heap.size, 3, none⟩ = some (.slice B ks.length e)) wb.drew := HS.out _ (below_drew (Below.refl wb.heap.size wb))
  refine wp_region_held (S := (fun W : World => W.cell? ⟨w.heap.size, 0, none⟩ = some (.int .i64 k) ∧ W.cell? ⟨w.heap.size, 1, none⟩ = some (.string t) ∧ W.cell? ⟨w.heap.size, 2, none⟩ = some (.slice A ts.length c) ∧ W.cell? ⟨w.heap.size, 3, none⟩ = some (.slice B ks.length e))) (by kernel_rfl) ?_
  change wpAnyH _ _ _ _ _ _ _ _ wb.drew
  first | refine tkU 0 hS ?_ | (refine tkV 0 (v := ?_) hS ?_ ?_; rotate_left 1; · (intro w0 hSw; (try dsimp only at hSw); go_split_ands; go_simp; try with_reducible rfl)) | fail
  try simp only [Act.put, pL]
  first | refine tkU 1 hS ?_ | (refine tkV 1 (v := ?_) hS ?_ ?_; rotate_left 1; · (intro w0 hSw; (try dsimp only at hSw); go_split_ands; go_simp; try with_reducible rfl)) | fail
  try simp only [Act.put, pL]
  first | refine tkU 3 hS ?_ | (refine tkV 3 (v := ?_) hS ?_ ?_; rotate_left 1; · (intro w0 hSw; (try dsimp only at hSw); go_split_ands; go_simp; try with_reducible rfl)) | fail
  try simp only [Act.put, pL]
  first | refine tkU 4 hS ?_ | (refine tkV 4 (v := ?_) hS ?_ ?_; rotate_left 1; · (intro w0 hSw; (try dsimp only at hSw); go_split_ands; go_simp; try with_reducible rfl)) | fail
  try simp only [Act.put, pL]
  first | refine tkU 5 hS ?_ | (refine tkV 5 (v := ?_) hS ?_ ?_; rotate_left 1; · (intro w0 hSw; (try dsimp only at hSw); go_split_ands; go_simp; try with_reducible rfl)) | fail
  try simp only [Act.put, pL]
  refine wpAnyH_ready (rs := [2]) (by kernel_rfl) (by simp) ?_
  refine AllReadyH.cons rfl (fun K hK => ?_) AllReadyH.nil
  go_simp
  refine (CK.out _).mono ?_
  rintro e w1 ⟨rfl, rfl⟩
  refine hK.out _ _ hS (fun _ => ?_)
  clear hK K
  try simp only [Act.put, pL]
  first | refine tkU 6 hS ?_ | (refine tkV 6 (v := ?_) hS ?_ ?_; rotate_left 1; · (intro w0 hSw; (try dsimp only at hSw); go_split_ands; go_simp; try with_reducible rfl)) | fail
  try simp only [Act.put, pL]
  first | refine tkU 7 hS ?_ | (refine tkV 7 (v := ?_) hS ?_ ?_; rotate_left 1; · (intro w0 hSw; (try dsimp only at hSw); go_split_ands; go_simp; try with_reducible rfl)) | fail
  try simp only [Act.put, pL]
  first | refine tkU 8 hS ?_ | (refine tkV 8 (v := ?_) hS ?_ ?_; rotate_left 1; · (intro w0 hSw; (try dsimp only at hSw); go_split_ands; go_simp; try with_reducible rfl)) | fail
  try simp only [Act.put, pL]
  first | refine tkU 9 hS ?_ | (refine tkV 9 (v := ?_) hS ?_ ?_; rotate_left 1; · (intro w0 hSw; (try dsimp only at hSw); go_split_ands; go_simp; try with_reducible rfl)) | fail
  try simp only [Act.put, pL]
  first | refine tkU 10 hS ?_ | (refine tkV 10 (v := ?_) hS ?_ ?_; rotate_left 1; · (intro w0 hSw; (try dsimp only at hSw); go_split_ands; go_simp; try with_reducible rfl)) | fail
  try simp only [Act.put, pL]
  first | refine tkU 11 hS ?_ | (refine tkV 11 (v := ?_) hS ?_ ?_; rotate_left 1; · (intro w0 hSw; (try dsimp only at hSw); go_split_ands; go_simp; try with_reducible rfl)) | fail
  try simp only [Act.put, pL]
  first | refine tkU 12 hS ?_ | (refine tkV 12 (v := ?_) hS ?_ ?_; rotate_left 1; · (intro w0 hSw; (try dsimp only at hSw); go_split_ands; go_simp; try with_reducible rfl)) | fail
  try simp only [Act.put, pL]
  first | refine tkU 13 hS ?_ | (refine tkV 13 (v := ?_) hS ?_ ?_; rotate_left 1; · (intro w0 hSw; (try dsimp only at hSw); go_split_ands; go_simp; try with_reducible rfl)) | fail
  try simp only [Act.put, pL]
  first | refine tkU 14 hS ?_ | (refine tkV 14 (v := ?_) hS ?_ ?_; rotate_left 1; · (intro w0 hSw; (try dsimp only at hSw); go_split_ands; go_simp; try with_reducible rfl)) | fail
  try simp only [Act.put, pL]
  first | refine tkU 15 hS ?_ | (refine tkV 15 (v := ?_) hS ?_ ?_; rotate_left 1; · (intro w0 hSw; (try dsimp only at hSw); go_split_ands; go_simp; try with_reducible rfl)) | fail
  try simp only [Act.put, pL]
  first | refine tkU 16 hS ?_ | (refine tkV 16 (v := ?_) hS ?_ ?_; rotate_left 1; · (intro w0 hSw; (try dsimp only at hSw); go_split_ands; go_simp; try with_reducible rfl)) | fail
  try simp only [Act.put, pL]
  first | refine tkU 17 hS ?_ | (refine tkV 17 (v := ?_) hS ?_ ?_; rotate_left 1; · (intro w0 hSw; (try dsimp only at hSw); go_split_ands; go_simp; try with_reducible rfl)) | fail
  try simp only [Act.put, pL]
  first | refine tkU 18 hS ?_ | (refine tkV 18 (v := ?_) hS ?_ ?_; rotate_left 1; · (intro w0 hSw; (try dsimp only at hSw); go_split_ands; go_simp; try with_reducible rfl)) | fail
  try simp only [Act.put, pL]
  first | refine tkU 19 hS ?_ | (refine tkV 19 (v := ?_) hS ?_ ?_; rotate_left 1; · (intro w0 hSw; (try dsimp only at hSw); go_split_ands; go_simp; try with_reducible rfl)) | fail
  try simp only [Act.put, pL]
  first | refine tkU 20 hS ?_ | (refine tkV 20 (v := ?_) hS ?_ ?_; rotate_left 1; · (intro w0 hSw; (try dsimp only at hSw); go_split_ands; go_simp; try with_reducible rfl)) | fail
  try simp only [Act.put, pL]
  first | refine tkU 21 hS ?_ | (refine tkV 21 (v := ?_) hS ?_ ?_; rotate_left 1; · (intro w0 hSw; (try dsimp only at hSw); go_split_ands; go_simp; try with_reducible rfl)) | fail
  try simp only [Act.put, pL]
  first | refine tkU 22 hS ?_ | (refine tkV 22 (v := ?_) hS ?_ ?_; rotate_left 1; · (intro w0 hSw; (try dsimp only at hSw); go_split_ands; go_simp; try with_reducible rfl)) | fail
  try simp only [Act.put, pL]
  first | refine tkU 23 hS ?_ | (refine tkV 23 (v := ?_) hS ?_ ?_; rotate_left 1; · (intro w0 hSw; (try dsimp only at hSw); go_split_ands; go_simp; try with_reducible rfl)) | fail
  try simp only [Act.put, pL]
  first | refine tkU 24 hS ?_ | (refine tkV 24 (v := ?_) hS ?_ ?_; rotate_left 1; · (intro w0 hSw; (try dsimp only at hSw); go_split_ands; go_simp; try with_reducible rfl)) | fail
  try simp only [Act.put, pL]
  first | refine tkU 25 hS ?_ | (refine tkV 25 (v := ?_) hS ?_ ?_; rotate_left 1; · (intro w0 hSw; (try dsimp only at hSw); go_split_ands; go_simp; try with_reducible rfl)) | fail
  try simp only [Act.put, pL]
  first | refine tkU 26 hS ?_ | (refine tkV 26 (v := ?_) hS ?_ ?_; rotate_left 1; · (intro w0 hSw; (try dsimp only at hSw); go_split_ands; go_simp; try with_reducible rfl)) | fail
  try simp only [Act.put, pL]
  first | refine tkU 27 hS ?_ | (refine tkV 27 (v := ?_) hS ?_ ?_; rotate_left 1; · (intro w0 hSw; (try dsimp only at hSw); go_split_ands; go_simp; try with_reducible rfl)) | fail
  try simp only [Act.put, pL]
  first | refine tkU 28 hS ?_ | (refine tkV 28 (v := ?_) hS ?_ ?_; rotate_left 1; · (intro w0 hSw; (try dsimp only at hSw); go_split_ands; go_simp; try with_reducible rfl)) | fail
  try simp only [Act.put, pL]
  first | refine tkU 29 hS ?_ | (refine tkV 29 (v := ?_) hS ?_ ?_; rotate_left 1; · (intro w0 hSw; (try dsimp only at hSw); go_split_ands; go_simp; try with_reducible rfl)) | fail
  try simp only [Act.put, pL]
  first | refine tkU 30 hS ?_ | (refine tkV 30 (v := ?_) hS ?_ ?_; rotate_left 1; · (intro w0 hSw; (try dsimp only at hSw); go_split_ands; go_simp; try with_reducible rfl)) | fail
  try simp only [Act.put, pL]
  first | refine tkU 31 hS ?_ | (refine tkV 31 (v := ?_) hS ?_ ?_; rotate_left 1; · (intro w0 hSw; (try dsimp only at hSw); go_split_ands; go_simp; try with_reducible rfl)) | fail
  try simp only [Act.put, pL]
  refine wpAnyH_done (by kernel_rfl) ?_ _
  have HD0 := Aside0.mk (below_drew (Below.refl wb.heap.size wb))
  generalize wb.drew = wd at hS HD0 ⊢
  obtain ⟨q0, q1, q2, q3⟩ := hS
  go_wp2_with fail
  go_ret
  exact ⟨ret_z HE.out.symm, HB.out.trans (HD0.out.mono HB.out.size)⟩
set_option maxRecDepth 100000 in
set_option maxHeartbeats 8000000 in
theorem may_D (k : Int) (t : ByteArray) (ts : List ByteArray) (ks : List Pth) (d : Nat) (hd100 : d ≤ 100) (hk : (ks.length : Int) = kidsN k) (hd : 5 < d) (w : World) (ok : Nat → Prop) (k9 : Int) (t9 : ByteArray) (A : Option Addr) (n9 c : Nat) (B : Option Addr) (m9 e : Nat)
    (hp : PathAt w ok (.mk k t ts ks) [.int .i64 k9, .string t9, .slice A n9 c, .slice B m9 e]) (hT : Tabs w) :
    Calls Tryd.prog 52 #[.agg #[.int .i64 k9, .string t9, .slice A n9 c, .slice B m9 e], .int .i64 (d : Int)] w fun e w' => e = .returned (.int .i64 (mayZ (.mk k t ts ks) d)) ∧ Below w.heap.size w w' := by
  obtain ⟨A1, c1, B1, d1, e0, -, -, hkl, hts, hks⟩ := path_cells hp
  simp only [List.cons.injEq, Value.int.injEq, Value.string.injEq, Value.slice.injEq, true_and, and_true, List.length_nil] at e0
  obtain ⟨e1, e2, ⟨e3, e4, e5⟩, e6, e7, e8⟩ := e0
  have e1 := e1.symm
  have e2 := e2.symm
  subst e1 e2 e3 e4 e5 e6 e7 e8
  obtain ⟨wb, hwb, HB, HN⟩ := boxP w k t A ts.length c B ks.length e
  have HHW : Aside0 (w.alloc (.cells #[.int .i64 k, .string t, .slice A ts.length c, .slice B ks.length e] 25) = wb) := ⟨hwb.symm⟩
  have HTb := Aside0.mk (hT.below HB.out)
  have HTS : Aside0 (TsAt wb ok A ts) := ⟨hts.move (fun g _ hg => HB.out.block g hg)⟩
  have HKS := Aside0.mk (KidsAt.move (w := w) (w1 := wb) (fun g _ hg => HB.out.block g hg) ks hks)
  have HS : Aside0 (∀ W, Below wb.heap.size wb W → (fun W : World => W.cell? ⟨w.heap.size, 0, none⟩ = some (.int .i64 k) ∧ W.cell? ⟨w.heap.size, 1, none⟩ = some (.string t) ∧ W.cell? ⟨w.heap.size, 2, none⟩ = some (.slice A ts.length c) ∧ W.cell? ⟨w.heap.size, 3, none⟩ = some (.slice B ks.length e)) W) := ⟨fun W h => ⟨(blk_cell (blk_below HN.out h) 0).trans rfl, (blk_cell (blk_below HN.out h) 1).trans rfl, (blk_cell (blk_below HN.out h) 2).trans rfl, (blk_cell (blk_below HN.out h) 3).trans rfl⟩⟩
  clear hwb hp hts hks hT
  have HE : Aside0 (mayZ (.mk k t ts ks) d = -1) := ⟨may_no (by unfold hereB; rw [decide_eq_false (show ¬ d ≤ 5 by omega)]; simp)⟩
  have g5 : decide ((5 : Int) < (d : Int)) = true := by rw [decide_eq_true_eq]; omega
  have CK : Aside0 (∀ W, Calls Tryd.prog 84 #[.int .i64 k] W fun e w' => e = .returned (.int .i64 (ks.length : Int)) ∧ w' = W) := ⟨fun W => by
    have := refKids_any k W
    rwa [← hk] at this⟩
  clear hk
  go_enter Tryd.func52, Tryd.ntmps52
  go_upto_region 1 with (fail)
  rw [HHW.out]
  have hS : (fun W : World => W.cell? ⟨w.heap.size, 0, none⟩ = some (.int .i64 k) ∧ W.cell? ⟨w.heap.size, 1, none⟩ = some (.string t) ∧ W.cell? ⟨w.heap.size, 2, none⟩ = some (.slice A ts.length c) ∧ W.cell? ⟨w.heap.size, 3, none⟩ = some (.slice B ks.length e)) wb.drew := HS.out _ (below_drew (Below.refl wb.heap.size wb))
  refine wp_region_held (S := (fun W : World => W.cell? ⟨w.heap.size, 0, none⟩ = some (.int .i64 k) ∧ W.cell? ⟨w.heap.size, 1, none⟩ = some (.string t) ∧ W.cell? ⟨w.heap.size, 2, none⟩ = some (.slice A ts.length c) ∧ W.cell? ⟨w.heap.size, 3, none⟩ = some (.slice B ks.length e))) (by kernel_rfl) ?_
  change wpAnyH _ _ _ _ _ _ _ _ wb.drew
  first | refine tkU 0 hS ?_ | (refine tkV 0 (v := ?_) hS ?_ ?_; rotate_left 1; · (intro w0 hSw; (try dsimp only at hSw); go_split_ands; go_simp; try with_reducible rfl)) | fail
  try simp only [Act.put, pL]
  first | refine tkU 1 hS ?_ | (refine tkV 1 (v := ?_) hS ?_ ?_; rotate_left 1; · (intro w0 hSw; (try dsimp only at hSw); go_split_ands; go_simp; try with_reducible rfl)) | fail
  try simp only [Act.put, pL]
  first | refine tkU 3 hS ?_ | (refine tkV 3 (v := ?_) hS ?_ ?_; rotate_left 1; · (intro w0 hSw; (try dsimp only at hSw); go_split_ands; go_simp; try with_reducible rfl)) | fail
  try simp only [Act.put, pL]
  first | refine tkU 4 hS ?_ | (refine tkV 4 (v := ?_) hS ?_ ?_; rotate_left 1; · (intro w0 hSw; (try dsimp only at hSw); go_split_ands; go_simp; try with_reducible rfl)) | fail
  try simp only [Act.put, pL]
  first | refine tkU 5 hS ?_ | (refine tkV 5 (v := ?_) hS ?_ ?_; rotate_left 1; · (intro w0 hSw; (try dsimp only at hSw); go_split_ands; go_simp; try with_reducible rfl)) | fail
  try simp only [Act.put, pL]
  refine wpAnyH_ready (rs := [2]) (by kernel_rfl) (by simp) ?_
  refine AllReadyH.cons rfl (fun K hK => ?_) AllReadyH.nil
  go_simp
  refine (CK.out _).mono ?_
  rintro e w1 ⟨rfl, rfl⟩
  refine hK.out _ _ hS (fun _ => ?_)
  clear hK K
  try simp only [Act.put, pL]
  first | refine tkU 6 hS ?_ | (refine tkV 6 (v := ?_) hS ?_ ?_; rotate_left 1; · (intro w0 hSw; (try dsimp only at hSw); go_split_ands; go_simp; try with_reducible rfl)) | fail
  try simp only [Act.put, pL]
  first | refine tkU 7 hS ?_ | (refine tkV 7 (v := ?_) hS ?_ ?_; rotate_left 1; · (intro w0 hSw; (try dsimp only at hSw); go_split_ands; go_simp; try with_reducible rfl)) | fail
  try simp only [Act.put, pL]
  first | refine tkU 8 hS ?_ | (refine tkV 8 (v := ?_) hS ?_ ?_; rotate_left 1; · (intro w0 hSw; (try dsimp only at hSw); go_split_ands; go_simp; try with_reducible rfl)) | fail
  try simp only [Act.put, pL]
  first | refine tkU 9 hS ?_ | (refine tkV 9 (v := ?_) hS ?_ ?_; rotate_left 1; · (intro w0 hSw; (try dsimp only at hSw); go_split_ands; go_simp; try with_reducible rfl)) | fail
  try simp only [Act.put, pL]
  first | refine tkU 10 hS ?_ | (refine tkV 10 (v := ?_) hS ?_ ?_; rotate_left 1; · (intro w0 hSw; (try dsimp only at hSw); go_split_ands; go_simp; try with_reducible rfl)) | fail
  try simp only [Act.put, pL]
  first | refine tkU 11 hS ?_ | (refine tkV 11 (v := ?_) hS ?_ ?_; rotate_left 1; · (intro w0 hSw; (try dsimp only at hSw); go_split_ands; go_simp; try with_reducible rfl)) | fail
  try simp only [Act.put, pL]
  first | refine tkU 12 hS ?_ | (refine tkV 12 (v := ?_) hS ?_ ?_; rotate_left 1; · (intro w0 hSw; (try dsimp only at hSw); go_split_ands; go_simp; try with_reducible rfl)) | fail
  try simp only [Act.put, pL]
  first | refine tkU 13 hS ?_ | (refine tkV 13 (v := ?_) hS ?_ ?_; rotate_left 1; · (intro w0 hSw; (try dsimp only at hSw); go_split_ands; go_simp; try with_reducible rfl)) | fail
  try simp only [Act.put, pL]
  first | refine tkU 14 hS ?_ | (refine tkV 14 (v := ?_) hS ?_ ?_; rotate_left 1; · (intro w0 hSw; (try dsimp only at hSw); go_split_ands; go_simp; try with_reducible rfl)) | fail
  try simp only [Act.put, pL]
  first | refine tkU 15 hS ?_ | (refine tkV 15 (v := ?_) hS ?_ ?_; rotate_left 1; · (intro w0 hSw; (try dsimp only at hSw); go_split_ands; go_simp; try with_reducible rfl)) | fail
  try simp only [Act.put, pL]
  first | refine tkU 16 hS ?_ | (refine tkV 16 (v := ?_) hS ?_ ?_; rotate_left 1; · (intro w0 hSw; (try dsimp only at hSw); go_split_ands; go_simp; try with_reducible rfl)) | fail
  try simp only [Act.put, pL]
  first | refine tkU 17 hS ?_ | (refine tkV 17 (v := ?_) hS ?_ ?_; rotate_left 1; · (intro w0 hSw; (try dsimp only at hSw); go_split_ands; go_simp; try with_reducible rfl)) | fail
  try simp only [Act.put, pL]
  first | refine tkU 18 hS ?_ | (refine tkV 18 (v := ?_) hS ?_ ?_; rotate_left 1; · (intro w0 hSw; (try dsimp only at hSw); go_split_ands; go_simp; try with_reducible rfl)) | fail
  try simp only [Act.put, pL]
  first | refine tkU 19 hS ?_ | (refine tkV 19 (v := ?_) hS ?_ ?_; rotate_left 1; · (intro w0 hSw; (try dsimp only at hSw); go_split_ands; go_simp; try with_reducible rfl)) | fail
  try simp only [Act.put, pL]
  first | refine tkU 20 hS ?_ | (refine tkV 20 (v := ?_) hS ?_ ?_; rotate_left 1; · (intro w0 hSw; (try dsimp only at hSw); go_split_ands; go_simp; try with_reducible rfl)) | fail
  try simp only [Act.put, pL]
  first | refine tkU 21 hS ?_ | (refine tkV 21 (v := ?_) hS ?_ ?_; rotate_left 1; · (intro w0 hSw; (try dsimp only at hSw); go_split_ands; go_simp; try with_reducible rfl)) | fail
  try simp only [Act.put, pL]
  first | refine tkU 22 hS ?_ | (refine tkV 22 (v := ?_) hS ?_ ?_; rotate_left 1; · (intro w0 hSw; (try dsimp only at hSw); go_split_ands; go_simp; try with_reducible rfl)) | fail
  try simp only [Act.put, pL]
  first | refine tkU 23 hS ?_ | (refine tkV 23 (v := ?_) hS ?_ ?_; rotate_left 1; · (intro w0 hSw; (try dsimp only at hSw); go_split_ands; go_simp; try with_reducible rfl)) | fail
  try simp only [Act.put, pL]
  first | refine tkU 24 hS ?_ | (refine tkV 24 (v := ?_) hS ?_ ?_; rotate_left 1; · (intro w0 hSw; (try dsimp only at hSw); go_split_ands; go_simp; try with_reducible rfl)) | fail
  try simp only [Act.put, pL]
  first | refine tkU 25 hS ?_ | (refine tkV 25 (v := ?_) hS ?_ ?_; rotate_left 1; · (intro w0 hSw; (try dsimp only at hSw); go_split_ands; go_simp; try with_reducible rfl)) | fail
  try simp only [Act.put, pL]
  first | refine tkU 26 hS ?_ | (refine tkV 26 (v := ?_) hS ?_ ?_; rotate_left 1; · (intro w0 hSw; (try dsimp only at hSw); go_split_ands; go_simp; try with_reducible rfl)) | fail
  try simp only [Act.put, pL]
  first | refine tkU 27 hS ?_ | (refine tkV 27 (v := ?_) hS ?_ ?_; rotate_left 1; · (intro w0 hSw; (try dsimp only at hSw); go_split_ands; go_simp; try with_reducible rfl)) | fail
  try simp only [Act.put, pL]
  first | refine tkU 28 hS ?_ | (refine tkV 28 (v := ?_) hS ?_ ?_; rotate_left 1; · (intro w0 hSw; (try dsimp only at hSw); go_split_ands; go_simp; try with_reducible rfl)) | fail
  try simp only [Act.put, pL]
  first | refine tkU 29 hS ?_ | (refine tkV 29 (v := ?_) hS ?_ ?_; rotate_left 1; · (intro w0 hSw; (try dsimp only at hSw); go_split_ands; go_simp; try with_reducible rfl)) | fail
  try simp only [Act.put, pL]
  first | refine tkU 30 hS ?_ | (refine tkV 30 (v := ?_) hS ?_ ?_; rotate_left 1; · (intro w0 hSw; (try dsimp only at hSw); go_split_ands; go_simp; try with_reducible rfl)) | fail
  try simp only [Act.put, pL]
  first | refine tkU 31 hS ?_ | (refine tkV 31 (v := ?_) hS ?_ ?_; rotate_left 1; · (intro w0 hSw; (try dsimp only at hSw); go_split_ands; go_simp; try with_reducible rfl)) | fail
  try simp only [Act.put, pL]
  refine wpAnyH_done (by kernel_rfl) ?_ _
  have HD0 := Aside0.mk (below_drew (Below.refl wb.heap.size wb))
  generalize wb.drew = wd at hS HD0 ⊢
  obtain ⟨q0, q1, q2, q3⟩ := hS
  go_wp2_with fail
  go_ret
  exact ⟨ret_z HE.out.symm, HB.out.trans (HD0.out.mono HB.out.size)⟩
set_option maxRecDepth 100000 in
set_option maxHeartbeats 8000000 in
theorem may_1N (t : ByteArray) (ts : List ByteArray) (ks : List Pth) (d : Nat) (hd100 : d ≤ 100) (hk : (ks.length : Int) = kidsN 1) (hd : d ≤ 5) (hn : 0 < ts.length) (w : World) (ok : Nat → Prop) (k9 : Int) (t9 : ByteArray) (A : Option Addr) (n9 c : Nat) (B : Option Addr) (m9 e : Nat)
    (hp : PathAt w ok (.mk 1 t ts ks) [.int .i64 k9, .string t9, .slice A n9 c, .slice B m9 e]) (hT : Tabs w) :
    Calls Tryd.prog 52 #[.agg #[.int .i64 k9, .string t9, .slice A n9 c, .slice B m9 e], .int .i64 (d : Int)] w fun e w' => e = .returned (.int .i64 (mayZ (.mk 1 t ts ks) d)) ∧ Below w.heap.size w w' := by
  obtain ⟨A1, c1, B1, d1, e0, -, -, hkl, hts, hks⟩ := path_cells hp
  simp only [List.cons.injEq, Value.int.injEq, Value.string.injEq, Value.slice.injEq, true_and, and_true, List.length_nil] at e0
  obtain ⟨e1, e2, ⟨e3, e4, e5⟩, e6, e7, e8⟩ := e0
  have e1 := e1.symm
  have e2 := e2.symm
  subst e1 e2 e3 e4 e5 e6 e7 e8
  obtain ⟨wb, hwb, HB, HN⟩ := boxP w 1 t A ts.length c B ks.length e
  have HHW : Aside0 (w.alloc (.cells #[.int .i64 1, .string t, .slice A ts.length c, .slice B ks.length e] 25) = wb) := ⟨hwb.symm⟩
  have HTb := Aside0.mk (hT.below HB.out)
  have HTS : Aside0 (TsAt wb ok A ts) := ⟨hts.move (fun g _ hg => HB.out.block g hg)⟩
  have HKS := Aside0.mk (KidsAt.move (w := w) (w1 := wb) (fun g _ hg => HB.out.block g hg) ks hks)
  have HS : Aside0 (∀ W, Below wb.heap.size wb W → (fun W : World => W.cell? ⟨w.heap.size, 0, none⟩ = some (.int .i64 1) ∧ W.cell? ⟨w.heap.size, 1, none⟩ = some (.string t) ∧ W.cell? ⟨w.heap.size, 2, none⟩ = some (.slice A ts.length c) ∧ W.cell? ⟨w.heap.size, 3, none⟩ = some (.slice B ks.length e)) W) := ⟨fun W h => ⟨(blk_cell (blk_below HN.out h) 0).trans rfl, (blk_cell (blk_below HN.out h) 1).trans rfl, (blk_cell (blk_below HN.out h) 2).trans rfl, (blk_cell (blk_below HN.out h) 3).trans rfl⟩⟩
  clear hwb hp hts hks hT
  have HE : Aside0 (mayZ (.mk 1 t ts ks) d = -1) := ⟨may_no (by unfold hereB; simp; intros; exact List.ne_nil_of_length_pos hn)⟩
  have g5 : decide ((5 : Int) < (d : Int)) = false := by rw [decide_eq_false_iff_not]; omega
  have n0 : decide ((0 : Int) < (ts.length : Int)) = true := by rw [decide_eq_true_eq]; omega
  have n0b : decide (0 < ts.length) = true := by rw [decide_eq_true_eq]; omega
  have CK : Aside0 (∀ W, Calls Tryd.prog 84 #[.int .i64 1] W fun e w' => e = .returned (.int .i64 (ks.length : Int)) ∧ w' = W) := ⟨fun W => by
    have := refKids_any 1 W
    rwa [← hk] at this⟩
  clear hk hn
  go_enter Tryd.func52, Tryd.ntmps52
  go_upto_region 1 with (fail)
  rw [HHW.out]
  have hS : (fun W : World => W.cell? ⟨w.heap.size, 0, none⟩ = some (.int .i64 1) ∧ W.cell? ⟨w.heap.size, 1, none⟩ = some (.string t) ∧ W.cell? ⟨w.heap.size, 2, none⟩ = some (.slice A ts.length c) ∧ W.cell? ⟨w.heap.size, 3, none⟩ = some (.slice B ks.length e)) wb.drew := HS.out _ (below_drew (Below.refl wb.heap.size wb))
  refine wp_region_held (S := (fun W : World => W.cell? ⟨w.heap.size, 0, none⟩ = some (.int .i64 1) ∧ W.cell? ⟨w.heap.size, 1, none⟩ = some (.string t) ∧ W.cell? ⟨w.heap.size, 2, none⟩ = some (.slice A ts.length c) ∧ W.cell? ⟨w.heap.size, 3, none⟩ = some (.slice B ks.length e))) (by kernel_rfl) ?_
  change wpAnyH _ _ _ _ _ _ _ _ wb.drew
  first | refine tkU 0 hS ?_ | (refine tkV 0 (v := ?_) hS ?_ ?_; rotate_left 1; · (intro w0 hSw; (try dsimp only at hSw); go_split_ands; go_simp; try with_reducible rfl)) | fail
  try simp only [Act.put, pL]
  first | refine tkU 1 hS ?_ | (refine tkV 1 (v := ?_) hS ?_ ?_; rotate_left 1; · (intro w0 hSw; (try dsimp only at hSw); go_split_ands; go_simp; try with_reducible rfl)) | fail
  try simp only [Act.put, pL]
  first | refine tkU 3 hS ?_ | (refine tkV 3 (v := ?_) hS ?_ ?_; rotate_left 1; · (intro w0 hSw; (try dsimp only at hSw); go_split_ands; go_simp; try with_reducible rfl)) | fail
  try simp only [Act.put, pL]
  first | refine tkU 4 hS ?_ | (refine tkV 4 (v := ?_) hS ?_ ?_; rotate_left 1; · (intro w0 hSw; (try dsimp only at hSw); go_split_ands; go_simp; try with_reducible rfl)) | fail
  try simp only [Act.put, pL]
  first | refine tkU 5 hS ?_ | (refine tkV 5 (v := ?_) hS ?_ ?_; rotate_left 1; · (intro w0 hSw; (try dsimp only at hSw); go_split_ands; go_simp; try with_reducible rfl)) | fail
  try simp only [Act.put, pL]
  refine wpAnyH_ready (rs := [2]) (by kernel_rfl) (by simp) ?_
  refine AllReadyH.cons rfl (fun K hK => ?_) AllReadyH.nil
  go_simp
  refine (CK.out _).mono ?_
  rintro e w1 ⟨rfl, rfl⟩
  refine hK.out _ _ hS (fun _ => ?_)
  clear hK K
  try simp only [Act.put, pL]
  first | refine tkU 6 hS ?_ | (refine tkV 6 (v := ?_) hS ?_ ?_; rotate_left 1; · (intro w0 hSw; (try dsimp only at hSw); go_split_ands; go_simp; try with_reducible rfl)) | fail
  try simp only [Act.put, pL]
  first | refine tkU 7 hS ?_ | (refine tkV 7 (v := ?_) hS ?_ ?_; rotate_left 1; · (intro w0 hSw; (try dsimp only at hSw); go_split_ands; go_simp; try with_reducible rfl)) | fail
  try simp only [Act.put, pL]
  first | refine tkU 8 hS ?_ | (refine tkV 8 (v := ?_) hS ?_ ?_; rotate_left 1; · (intro w0 hSw; (try dsimp only at hSw); go_split_ands; go_simp; try with_reducible rfl)) | fail
  try simp only [Act.put, pL]
  first | refine tkU 9 hS ?_ | (refine tkV 9 (v := ?_) hS ?_ ?_; rotate_left 1; · (intro w0 hSw; (try dsimp only at hSw); go_split_ands; go_simp; try with_reducible rfl)) | fail
  try simp only [Act.put, pL]
  first | refine tkU 10 hS ?_ | (refine tkV 10 (v := ?_) hS ?_ ?_; rotate_left 1; · (intro w0 hSw; (try dsimp only at hSw); go_split_ands; go_simp; try with_reducible rfl)) | fail
  try simp only [Act.put, pL]
  first | refine tkU 11 hS ?_ | (refine tkV 11 (v := ?_) hS ?_ ?_; rotate_left 1; · (intro w0 hSw; (try dsimp only at hSw); go_split_ands; go_simp; try with_reducible rfl)) | fail
  try simp only [Act.put, pL]
  first | refine tkU 12 hS ?_ | (refine tkV 12 (v := ?_) hS ?_ ?_; rotate_left 1; · (intro w0 hSw; (try dsimp only at hSw); go_split_ands; go_simp; try with_reducible rfl)) | fail
  try simp only [Act.put, pL]
  first | refine tkU 13 hS ?_ | (refine tkV 13 (v := ?_) hS ?_ ?_; rotate_left 1; · (intro w0 hSw; (try dsimp only at hSw); go_split_ands; go_simp; try with_reducible rfl)) | fail
  try simp only [Act.put, pL]
  first | refine tkU 14 hS ?_ | (refine tkV 14 (v := ?_) hS ?_ ?_; rotate_left 1; · (intro w0 hSw; (try dsimp only at hSw); go_split_ands; go_simp; try with_reducible rfl)) | fail
  try simp only [Act.put, pL]
  first | refine tkU 15 hS ?_ | (refine tkV 15 (v := ?_) hS ?_ ?_; rotate_left 1; · (intro w0 hSw; (try dsimp only at hSw); go_split_ands; go_simp; try with_reducible rfl)) | fail
  try simp only [Act.put, pL]
  first | refine tkU 16 hS ?_ | (refine tkV 16 (v := ?_) hS ?_ ?_; rotate_left 1; · (intro w0 hSw; (try dsimp only at hSw); go_split_ands; go_simp; try with_reducible rfl)) | fail
  try simp only [Act.put, pL]
  first | refine tkU 17 hS ?_ | (refine tkV 17 (v := ?_) hS ?_ ?_; rotate_left 1; · (intro w0 hSw; (try dsimp only at hSw); go_split_ands; go_simp; try with_reducible rfl)) | fail
  try simp only [Act.put, pL]
  first | refine tkU 18 hS ?_ | (refine tkV 18 (v := ?_) hS ?_ ?_; rotate_left 1; · (intro w0 hSw; (try dsimp only at hSw); go_split_ands; go_simp; try with_reducible rfl)) | fail
  try simp only [Act.put, pL]
  first | refine tkU 19 hS ?_ | (refine tkV 19 (v := ?_) hS ?_ ?_; rotate_left 1; · (intro w0 hSw; (try dsimp only at hSw); go_split_ands; go_simp; try with_reducible rfl)) | fail
  try simp only [Act.put, pL]
  first | refine tkU 20 hS ?_ | (refine tkV 20 (v := ?_) hS ?_ ?_; rotate_left 1; · (intro w0 hSw; (try dsimp only at hSw); go_split_ands; go_simp; try with_reducible rfl)) | fail
  try simp only [Act.put, pL]
  first | refine tkU 21 hS ?_ | (refine tkV 21 (v := ?_) hS ?_ ?_; rotate_left 1; · (intro w0 hSw; (try dsimp only at hSw); go_split_ands; go_simp; try with_reducible rfl)) | fail
  try simp only [Act.put, pL]
  first | refine tkU 22 hS ?_ | (refine tkV 22 (v := ?_) hS ?_ ?_; rotate_left 1; · (intro w0 hSw; (try dsimp only at hSw); go_split_ands; go_simp; try with_reducible rfl)) | fail
  try simp only [Act.put, pL]
  first | refine tkU 23 hS ?_ | (refine tkV 23 (v := ?_) hS ?_ ?_; rotate_left 1; · (intro w0 hSw; (try dsimp only at hSw); go_split_ands; go_simp; try with_reducible rfl)) | fail
  try simp only [Act.put, pL]
  first | refine tkU 24 hS ?_ | (refine tkV 24 (v := ?_) hS ?_ ?_; rotate_left 1; · (intro w0 hSw; (try dsimp only at hSw); go_split_ands; go_simp; try with_reducible rfl)) | fail
  try simp only [Act.put, pL]
  first | refine tkU 25 hS ?_ | (refine tkV 25 (v := ?_) hS ?_ ?_; rotate_left 1; · (intro w0 hSw; (try dsimp only at hSw); go_split_ands; go_simp; try with_reducible rfl)) | fail
  try simp only [Act.put, pL]
  first | refine tkU 26 hS ?_ | (refine tkV 26 (v := ?_) hS ?_ ?_; rotate_left 1; · (intro w0 hSw; (try dsimp only at hSw); go_split_ands; go_simp; try with_reducible rfl)) | fail
  try simp only [Act.put, pL]
  first | refine tkU 27 hS ?_ | (refine tkV 27 (v := ?_) hS ?_ ?_; rotate_left 1; · (intro w0 hSw; (try dsimp only at hSw); go_split_ands; go_simp; try with_reducible rfl)) | fail
  try simp only [Act.put, pL]
  first | refine tkU 28 hS ?_ | (refine tkV 28 (v := ?_) hS ?_ ?_; rotate_left 1; · (intro w0 hSw; (try dsimp only at hSw); go_split_ands; go_simp; try with_reducible rfl)) | fail
  try simp only [Act.put, pL]
  first | refine tkU 29 hS ?_ | (refine tkV 29 (v := ?_) hS ?_ ?_; rotate_left 1; · (intro w0 hSw; (try dsimp only at hSw); go_split_ands; go_simp; try with_reducible rfl)) | fail
  try simp only [Act.put, pL]
  first | refine tkU 30 hS ?_ | (refine tkV 30 (v := ?_) hS ?_ ?_; rotate_left 1; · (intro w0 hSw; (try dsimp only at hSw); go_split_ands; go_simp; try with_reducible rfl)) | fail
  try simp only [Act.put, pL]
  first | refine tkU 31 hS ?_ | (refine tkV 31 (v := ?_) hS ?_ ?_; rotate_left 1; · (intro w0 hSw; (try dsimp only at hSw); go_split_ands; go_simp; try with_reducible rfl)) | fail
  try simp only [Act.put, pL]
  refine wpAnyH_done (by kernel_rfl) ?_ _
  have HD0 := Aside0.mk (below_drew (Below.refl wb.heap.size wb))
  generalize wb.drew = wd at hS HD0 ⊢
  obtain ⟨q0, q1, q2, q3⟩ := hS
  go_wp2_with fail
  go_ret
  exact ⟨ret_z HE.out.symm, HB.out.trans (HD0.out.mono HB.out.size)⟩
set_option maxRecDepth 100000 in
set_option maxHeartbeats 8000000 in
theorem may_8T (t : ByteArray) (ts : List ByteArray) (ks : List Pth) (d : Nat) (hd100 : d ≤ 100) (hk : (ks.length : Int) = kidsN 8) (hd : d ≤ 5) (ht : 0 < t.size) (w : World) (ok : Nat → Prop) (k9 : Int) (t9 : ByteArray) (A : Option Addr) (n9 c : Nat) (B : Option Addr) (m9 e : Nat)
    (hp : PathAt w ok (.mk 8 t ts ks) [.int .i64 k9, .string t9, .slice A n9 c, .slice B m9 e]) (hT : Tabs w) :
    Calls Tryd.prog 52 #[.agg #[.int .i64 k9, .string t9, .slice A n9 c, .slice B m9 e], .int .i64 (d : Int)] w fun e w' => e = .returned (.int .i64 (mayZ (.mk 8 t ts ks) d)) ∧ Below w.heap.size w w' := by
  obtain ⟨A1, c1, B1, d1, e0, -, -, hkl, hts, hks⟩ := path_cells hp
  simp only [List.cons.injEq, Value.int.injEq, Value.string.injEq, Value.slice.injEq, true_and, and_true, List.length_nil] at e0
  obtain ⟨e1, e2, ⟨e3, e4, e5⟩, e6, e7, e8⟩ := e0
  have e1 := e1.symm
  have e2 := e2.symm
  subst e1 e2 e3 e4 e5 e6 e7 e8
  obtain ⟨wb, hwb, HB, HN⟩ := boxP w 8 t A ts.length c B ks.length e
  have HHW : Aside0 (w.alloc (.cells #[.int .i64 8, .string t, .slice A ts.length c, .slice B ks.length e] 25) = wb) := ⟨hwb.symm⟩
  have HTb := Aside0.mk (hT.below HB.out)
  have HTS : Aside0 (TsAt wb ok A ts) := ⟨hts.move (fun g _ hg => HB.out.block g hg)⟩
  have HKS := Aside0.mk (KidsAt.move (w := w) (w1 := wb) (fun g _ hg => HB.out.block g hg) ks hks)
  have HS : Aside0 (∀ W, Below wb.heap.size wb W → (fun W : World => W.cell? ⟨w.heap.size, 0, none⟩ = some (.int .i64 8) ∧ W.cell? ⟨w.heap.size, 1, none⟩ = some (.string t) ∧ W.cell? ⟨w.heap.size, 2, none⟩ = some (.slice A ts.length c) ∧ W.cell? ⟨w.heap.size, 3, none⟩ = some (.slice B ks.length e)) W) := ⟨fun W h => ⟨(blk_cell (blk_below HN.out h) 0).trans rfl, (blk_cell (blk_below HN.out h) 1).trans rfl, (blk_cell (blk_below HN.out h) 2).trans rfl, (blk_cell (blk_below HN.out h) 3).trans rfl⟩⟩
  clear hwb hp hts hks hT
  have HE : Aside0 (mayZ (.mk 8 t ts ks) d = -1) := ⟨may_no (by unfold hereB; rw [decide_eq_false (show ¬ t.size = 0 by omega)]; simp)⟩
  have g5 : decide ((5 : Int) < (d : Int)) = false := by rw [decide_eq_false_iff_not]; omega
  obtain ⟨t1, t2, t3⟩ := toList_ne ht
  have CK : Aside0 (∀ W, Calls Tryd.prog 84 #[.int .i64 8] W fun e w' => e = .returned (.int .i64 (ks.length : Int)) ∧ w' = W) := ⟨fun W => by
    have := refKids_any 8 W
    rwa [← hk] at this⟩
  clear hk ht
  go_enter Tryd.func52, Tryd.ntmps52
  go_upto_region 1 with (fail)
  rw [HHW.out]
  have hS : (fun W : World => W.cell? ⟨w.heap.size, 0, none⟩ = some (.int .i64 8) ∧ W.cell? ⟨w.heap.size, 1, none⟩ = some (.string t) ∧ W.cell? ⟨w.heap.size, 2, none⟩ = some (.slice A ts.length c) ∧ W.cell? ⟨w.heap.size, 3, none⟩ = some (.slice B ks.length e)) wb.drew := HS.out _ (below_drew (Below.refl wb.heap.size wb))
  refine wp_region_held (S := (fun W : World => W.cell? ⟨w.heap.size, 0, none⟩ = some (.int .i64 8) ∧ W.cell? ⟨w.heap.size, 1, none⟩ = some (.string t) ∧ W.cell? ⟨w.heap.size, 2, none⟩ = some (.slice A ts.length c) ∧ W.cell? ⟨w.heap.size, 3, none⟩ = some (.slice B ks.length e))) (by kernel_rfl) ?_
  change wpAnyH _ _ _ _ _ _ _ _ wb.drew
  first | refine tkU 0 hS ?_ | (refine tkV 0 (v := ?_) hS ?_ ?_; rotate_left 1; · (intro w0 hSw; (try dsimp only at hSw); go_split_ands; go_simp; try with_reducible rfl)) | fail
  try simp only [Act.put, pL]
  first | refine tkU 1 hS ?_ | (refine tkV 1 (v := ?_) hS ?_ ?_; rotate_left 1; · (intro w0 hSw; (try dsimp only at hSw); go_split_ands; go_simp; try with_reducible rfl)) | fail
  try simp only [Act.put, pL]
  first | refine tkU 3 hS ?_ | (refine tkV 3 (v := ?_) hS ?_ ?_; rotate_left 1; · (intro w0 hSw; (try dsimp only at hSw); go_split_ands; go_simp; try with_reducible rfl)) | fail
  try simp only [Act.put, pL]
  first | refine tkU 4 hS ?_ | (refine tkV 4 (v := ?_) hS ?_ ?_; rotate_left 1; · (intro w0 hSw; (try dsimp only at hSw); go_split_ands; go_simp; try with_reducible rfl)) | fail
  try simp only [Act.put, pL]
  first | refine tkU 5 hS ?_ | (refine tkV 5 (v := ?_) hS ?_ ?_; rotate_left 1; · (intro w0 hSw; (try dsimp only at hSw); go_split_ands; go_simp; try with_reducible rfl)) | fail
  try simp only [Act.put, pL]
  refine wpAnyH_ready (rs := [2]) (by kernel_rfl) (by simp) ?_
  refine AllReadyH.cons rfl (fun K hK => ?_) AllReadyH.nil
  go_simp
  refine (CK.out _).mono ?_
  rintro e w1 ⟨rfl, rfl⟩
  refine hK.out _ _ hS (fun _ => ?_)
  clear hK K
  try simp only [Act.put, pL]
  first | refine tkU 6 hS ?_ | (refine tkV 6 (v := ?_) hS ?_ ?_; rotate_left 1; · (intro w0 hSw; (try dsimp only at hSw); go_split_ands; go_simp; try with_reducible rfl)) | fail
  try simp only [Act.put, pL]
  first | refine tkU 7 hS ?_ | (refine tkV 7 (v := ?_) hS ?_ ?_; rotate_left 1; · (intro w0 hSw; (try dsimp only at hSw); go_split_ands; go_simp; try with_reducible rfl)) | fail
  try simp only [Act.put, pL]
  first | refine tkU 8 hS ?_ | (refine tkV 8 (v := ?_) hS ?_ ?_; rotate_left 1; · (intro w0 hSw; (try dsimp only at hSw); go_split_ands; go_simp; try with_reducible rfl)) | fail
  try simp only [Act.put, pL]
  first | refine tkU 9 hS ?_ | (refine tkV 9 (v := ?_) hS ?_ ?_; rotate_left 1; · (intro w0 hSw; (try dsimp only at hSw); go_split_ands; go_simp; try with_reducible rfl)) | fail
  try simp only [Act.put, pL]
  first | refine tkU 10 hS ?_ | (refine tkV 10 (v := ?_) hS ?_ ?_; rotate_left 1; · (intro w0 hSw; (try dsimp only at hSw); go_split_ands; go_simp; try with_reducible rfl)) | fail
  try simp only [Act.put, pL]
  first | refine tkU 11 hS ?_ | (refine tkV 11 (v := ?_) hS ?_ ?_; rotate_left 1; · (intro w0 hSw; (try dsimp only at hSw); go_split_ands; go_simp; try with_reducible rfl)) | fail
  try simp only [Act.put, pL]
  first | refine tkU 12 hS ?_ | (refine tkV 12 (v := ?_) hS ?_ ?_; rotate_left 1; · (intro w0 hSw; (try dsimp only at hSw); go_split_ands; go_simp; try with_reducible rfl)) | fail
  try simp only [Act.put, pL]
  first | refine tkU 13 hS ?_ | (refine tkV 13 (v := ?_) hS ?_ ?_; rotate_left 1; · (intro w0 hSw; (try dsimp only at hSw); go_split_ands; go_simp; try with_reducible rfl)) | fail
  try simp only [Act.put, pL]
  first | refine tkU 14 hS ?_ | (refine tkV 14 (v := ?_) hS ?_ ?_; rotate_left 1; · (intro w0 hSw; (try dsimp only at hSw); go_split_ands; go_simp; try with_reducible rfl)) | fail
  try simp only [Act.put, pL]
  first | refine tkU 15 hS ?_ | (refine tkV 15 (v := ?_) hS ?_ ?_; rotate_left 1; · (intro w0 hSw; (try dsimp only at hSw); go_split_ands; go_simp; try with_reducible rfl)) | fail
  try simp only [Act.put, pL]
  first | refine tkU 16 hS ?_ | (refine tkV 16 (v := ?_) hS ?_ ?_; rotate_left 1; · (intro w0 hSw; (try dsimp only at hSw); go_split_ands; go_simp; try with_reducible rfl)) | fail
  try simp only [Act.put, pL]
  first | refine tkU 17 hS ?_ | (refine tkV 17 (v := ?_) hS ?_ ?_; rotate_left 1; · (intro w0 hSw; (try dsimp only at hSw); go_split_ands; go_simp; try with_reducible rfl)) | fail
  try simp only [Act.put, pL]
  first | refine tkU 18 hS ?_ | (refine tkV 18 (v := ?_) hS ?_ ?_; rotate_left 1; · (intro w0 hSw; (try dsimp only at hSw); go_split_ands; go_simp; try with_reducible rfl)) | fail
  try simp only [Act.put, pL]
  first | refine tkU 19 hS ?_ | (refine tkV 19 (v := ?_) hS ?_ ?_; rotate_left 1; · (intro w0 hSw; (try dsimp only at hSw); go_split_ands; go_simp; try with_reducible rfl)) | fail
  try simp only [Act.put, pL]
  first | refine tkU 20 hS ?_ | (refine tkV 20 (v := ?_) hS ?_ ?_; rotate_left 1; · (intro w0 hSw; (try dsimp only at hSw); go_split_ands; go_simp; try with_reducible rfl)) | fail
  try simp only [Act.put, pL]
  first | refine tkU 21 hS ?_ | (refine tkV 21 (v := ?_) hS ?_ ?_; rotate_left 1; · (intro w0 hSw; (try dsimp only at hSw); go_split_ands; go_simp; try with_reducible rfl)) | fail
  try simp only [Act.put, pL]
  first | refine tkU 22 hS ?_ | (refine tkV 22 (v := ?_) hS ?_ ?_; rotate_left 1; · (intro w0 hSw; (try dsimp only at hSw); go_split_ands; go_simp; try with_reducible rfl)) | fail
  try simp only [Act.put, pL]
  first | refine tkU 23 hS ?_ | (refine tkV 23 (v := ?_) hS ?_ ?_; rotate_left 1; · (intro w0 hSw; (try dsimp only at hSw); go_split_ands; go_simp; try with_reducible rfl)) | fail
  try simp only [Act.put, pL]
  first | refine tkU 24 hS ?_ | (refine tkV 24 (v := ?_) hS ?_ ?_; rotate_left 1; · (intro w0 hSw; (try dsimp only at hSw); go_split_ands; go_simp; try with_reducible rfl)) | fail
  try simp only [Act.put, pL]
  first | refine tkU 25 hS ?_ | (refine tkV 25 (v := ?_) hS ?_ ?_; rotate_left 1; · (intro w0 hSw; (try dsimp only at hSw); go_split_ands; go_simp; try with_reducible rfl)) | fail
  try simp only [Act.put, pL]
  first | refine tkU 26 hS ?_ | (refine tkV 26 (v := ?_) hS ?_ ?_; rotate_left 1; · (intro w0 hSw; (try dsimp only at hSw); go_split_ands; go_simp; try with_reducible rfl)) | fail
  try simp only [Act.put, pL]
  first | refine tkU 27 hS ?_ | (refine tkV 27 (v := ?_) hS ?_ ?_; rotate_left 1; · (intro w0 hSw; (try dsimp only at hSw); go_split_ands; go_simp; try with_reducible rfl)) | fail
  try simp only [Act.put, pL]
  first | refine tkU 28 hS ?_ | (refine tkV 28 (v := ?_) hS ?_ ?_; rotate_left 1; · (intro w0 hSw; (try dsimp only at hSw); go_split_ands; go_simp; try with_reducible rfl)) | fail
  try simp only [Act.put, pL]
  first | refine tkU 29 hS ?_ | (refine tkV 29 (v := ?_) hS ?_ ?_; rotate_left 1; · (intro w0 hSw; (try dsimp only at hSw); go_split_ands; go_simp; try with_reducible rfl)) | fail
  try simp only [Act.put, pL]
  first | refine tkU 30 hS ?_ | (refine tkV 30 (v := ?_) hS ?_ ?_; rotate_left 1; · (intro w0 hSw; (try dsimp only at hSw); go_split_ands; go_simp; try with_reducible rfl)) | fail
  try simp only [Act.put, pL]
  first | refine tkU 31 hS ?_ | (refine tkV 31 (v := ?_) hS ?_ ?_; rotate_left 1; · (intro w0 hSw; (try dsimp only at hSw); go_split_ands; go_simp; try with_reducible rfl)) | fail
  try simp only [Act.put, pL]
  refine wpAnyH_done (by kernel_rfl) ?_ _
  have HD0 := Aside0.mk (below_drew (Below.refl wb.heap.size wb))
  generalize wb.drew = wd at hS HD0 ⊢
  obtain ⟨q0, q1, q2, q3⟩ := hS
  go_wp2_with fail
  go_ret
  exact ⟨ret_z HE.out.symm, HB.out.trans (HD0.out.mono HB.out.size)⟩
set_option maxRecDepth 100000 in
set_option maxHeartbeats 8000000 in
theorem may_oT (k : Int) (t : ByteArray) (ts : List ByteArray) (ks : List Pth) (d : Nat) (hd100 : d ≤ 100) (hk : (ks.length : Int) = kidsN k) (hk1 : k ≠ 1) (hk8 : k ≠ 8) (hd : d ≤ 5) (ht : 0 < t.size) (w : World) (ok : Nat → Prop) (k9 : Int) (t9 : ByteArray) (A : Option Addr) (n9 c : Nat) (B : Option Addr) (m9 e : Nat)
    (hp : PathAt w ok (.mk k t ts ks) [.int .i64 k9, .string t9, .slice A n9 c, .slice B m9 e]) (hT : Tabs w) :
    Calls Tryd.prog 52 #[.agg #[.int .i64 k9, .string t9, .slice A n9 c, .slice B m9 e], .int .i64 (d : Int)] w fun e w' => e = .returned (.int .i64 (mayZ (.mk k t ts ks) d)) ∧ Below w.heap.size w w' := by
  obtain ⟨A1, c1, B1, d1, e0, -, -, hkl, hts, hks⟩ := path_cells hp
  simp only [List.cons.injEq, Value.int.injEq, Value.string.injEq, Value.slice.injEq, true_and, and_true, List.length_nil] at e0
  obtain ⟨e1, e2, ⟨e3, e4, e5⟩, e6, e7, e8⟩ := e0
  have e1 := e1.symm
  have e2 := e2.symm
  subst e1 e2 e3 e4 e5 e6 e7 e8
  obtain ⟨wb, hwb, HB, HN⟩ := boxP w k t A ts.length c B ks.length e
  have HHW : Aside0 (w.alloc (.cells #[.int .i64 k, .string t, .slice A ts.length c, .slice B ks.length e] 25) = wb) := ⟨hwb.symm⟩
  have HTb := Aside0.mk (hT.below HB.out)
  have HTS : Aside0 (TsAt wb ok A ts) := ⟨hts.move (fun g _ hg => HB.out.block g hg)⟩
  have HKS := Aside0.mk (KidsAt.move (w := w) (w1 := wb) (fun g _ hg => HB.out.block g hg) ks hks)
  have HS : Aside0 (∀ W, Below wb.heap.size wb W → (fun W : World => W.cell? ⟨w.heap.size, 0, none⟩ = some (.int .i64 k) ∧ W.cell? ⟨w.heap.size, 1, none⟩ = some (.string t) ∧ W.cell? ⟨w.heap.size, 2, none⟩ = some (.slice A ts.length c) ∧ W.cell? ⟨w.heap.size, 3, none⟩ = some (.slice B ks.length e)) W) := ⟨fun W h => ⟨(blk_cell (blk_below HN.out h) 0).trans rfl, (blk_cell (blk_below HN.out h) 1).trans rfl, (blk_cell (blk_below HN.out h) 2).trans rfl, (blk_cell (blk_below HN.out h) 3).trans rfl⟩⟩
  clear hwb hp hts hks hT
  have HE : Aside0 (mayZ (.mk k t ts ks) d = -1) := ⟨may_no (by unfold hereB; rw [if_neg hk1, decide_eq_false (show ¬ t.size = 0 by omega)]; simp)⟩
  have g5 : decide ((5 : Int) < (d : Int)) = false := by rw [decide_eq_false_iff_not]; omega
  obtain ⟨t1, t2, t3⟩ := toList_ne ht
  have m1 : (k != 1) = true := by rw [bne_iff_ne]; exact hk1
  have m1e : (k == 1) = false := by rw [beq_eq_false_iff_ne]; exact hk1
  have m8 : (k != 8) = true := by rw [bne_iff_ne]; exact hk8
  have m8e : (k == 8) = false := by rw [beq_eq_false_iff_ne]; exact hk8
  have CK : Aside0 (∀ W, Calls Tryd.prog 84 #[.int .i64 k] W fun e w' => e = .returned (.int .i64 (ks.length : Int)) ∧ w' = W) := ⟨fun W => by
    have := refKids_any k W
    rwa [← hk] at this⟩
  clear hk ht hk1 hk8
  go_enter Tryd.func52, Tryd.ntmps52
  go_upto_region 1 with (fail)
  rw [HHW.out]
  have hS : (fun W : World => W.cell? ⟨w.heap.size, 0, none⟩ = some (.int .i64 k) ∧ W.cell? ⟨w.heap.size, 1, none⟩ = some (.string t) ∧ W.cell? ⟨w.heap.size, 2, none⟩ = some (.slice A ts.length c) ∧ W.cell? ⟨w.heap.size, 3, none⟩ = some (.slice B ks.length e)) wb.drew := HS.out _ (below_drew (Below.refl wb.heap.size wb))
  refine wp_region_held (S := (fun W : World => W.cell? ⟨w.heap.size, 0, none⟩ = some (.int .i64 k) ∧ W.cell? ⟨w.heap.size, 1, none⟩ = some (.string t) ∧ W.cell? ⟨w.heap.size, 2, none⟩ = some (.slice A ts.length c) ∧ W.cell? ⟨w.heap.size, 3, none⟩ = some (.slice B ks.length e))) (by kernel_rfl) ?_
  change wpAnyH _ _ _ _ _ _ _ _ wb.drew
  first | refine tkU 0 hS ?_ | (refine tkV 0 (v := ?_) hS ?_ ?_; rotate_left 1; · (intro w0 hSw; (try dsimp only at hSw); go_split_ands; go_simp; try with_reducible rfl)) | fail
  try simp only [Act.put, pL]
  first | refine tkU 1 hS ?_ | (refine tkV 1 (v := ?_) hS ?_ ?_; rotate_left 1; · (intro w0 hSw; (try dsimp only at hSw); go_split_ands; go_simp; try with_reducible rfl)) | fail
  try simp only [Act.put, pL]
  first | refine tkU 3 hS ?_ | (refine tkV 3 (v := ?_) hS ?_ ?_; rotate_left 1; · (intro w0 hSw; (try dsimp only at hSw); go_split_ands; go_simp; try with_reducible rfl)) | fail
  try simp only [Act.put, pL]
  first | refine tkU 4 hS ?_ | (refine tkV 4 (v := ?_) hS ?_ ?_; rotate_left 1; · (intro w0 hSw; (try dsimp only at hSw); go_split_ands; go_simp; try with_reducible rfl)) | fail
  try simp only [Act.put, pL]
  first | refine tkU 5 hS ?_ | (refine tkV 5 (v := ?_) hS ?_ ?_; rotate_left 1; · (intro w0 hSw; (try dsimp only at hSw); go_split_ands; go_simp; try with_reducible rfl)) | fail
  try simp only [Act.put, pL]
  refine wpAnyH_ready (rs := [2]) (by kernel_rfl) (by simp) ?_
  refine AllReadyH.cons rfl (fun K hK => ?_) AllReadyH.nil
  go_simp
  refine (CK.out _).mono ?_
  rintro e w1 ⟨rfl, rfl⟩
  refine hK.out _ _ hS (fun _ => ?_)
  clear hK K
  try simp only [Act.put, pL]
  first | refine tkU 6 hS ?_ | (refine tkV 6 (v := ?_) hS ?_ ?_; rotate_left 1; · (intro w0 hSw; (try dsimp only at hSw); go_split_ands; go_simp; try with_reducible rfl)) | fail
  try simp only [Act.put, pL]
  first | refine tkU 7 hS ?_ | (refine tkV 7 (v := ?_) hS ?_ ?_; rotate_left 1; · (intro w0 hSw; (try dsimp only at hSw); go_split_ands; go_simp; try with_reducible rfl)) | fail
  try simp only [Act.put, pL]
  first | refine tkU 8 hS ?_ | (refine tkV 8 (v := ?_) hS ?_ ?_; rotate_left 1; · (intro w0 hSw; (try dsimp only at hSw); go_split_ands; go_simp; try with_reducible rfl)) | fail
  try simp only [Act.put, pL]
  first | refine tkU 9 hS ?_ | (refine tkV 9 (v := ?_) hS ?_ ?_; rotate_left 1; · (intro w0 hSw; (try dsimp only at hSw); go_split_ands; go_simp; try with_reducible rfl)) | fail
  try simp only [Act.put, pL]
  first | refine tkU 10 hS ?_ | (refine tkV 10 (v := ?_) hS ?_ ?_; rotate_left 1; · (intro w0 hSw; (try dsimp only at hSw); go_split_ands; go_simp; try with_reducible rfl)) | fail
  try simp only [Act.put, pL]
  first | refine tkU 11 hS ?_ | (refine tkV 11 (v := ?_) hS ?_ ?_; rotate_left 1; · (intro w0 hSw; (try dsimp only at hSw); go_split_ands; go_simp; try with_reducible rfl)) | fail
  try simp only [Act.put, pL]
  first | refine tkU 12 hS ?_ | (refine tkV 12 (v := ?_) hS ?_ ?_; rotate_left 1; · (intro w0 hSw; (try dsimp only at hSw); go_split_ands; go_simp; try with_reducible rfl)) | fail
  try simp only [Act.put, pL]
  first | refine tkU 13 hS ?_ | (refine tkV 13 (v := ?_) hS ?_ ?_; rotate_left 1; · (intro w0 hSw; (try dsimp only at hSw); go_split_ands; go_simp; try with_reducible rfl)) | fail
  try simp only [Act.put, pL]
  first | refine tkU 14 hS ?_ | (refine tkV 14 (v := ?_) hS ?_ ?_; rotate_left 1; · (intro w0 hSw; (try dsimp only at hSw); go_split_ands; go_simp; try with_reducible rfl)) | fail
  try simp only [Act.put, pL]
  first | refine tkU 15 hS ?_ | (refine tkV 15 (v := ?_) hS ?_ ?_; rotate_left 1; · (intro w0 hSw; (try dsimp only at hSw); go_split_ands; go_simp; try with_reducible rfl)) | fail
  try simp only [Act.put, pL]
  first | refine tkU 16 hS ?_ | (refine tkV 16 (v := ?_) hS ?_ ?_; rotate_left 1; · (intro w0 hSw; (try dsimp only at hSw); go_split_ands; go_simp; try with_reducible rfl)) | fail
  try simp only [Act.put, pL]
  first | refine tkU 17 hS ?_ | (refine tkV 17 (v := ?_) hS ?_ ?_; rotate_left 1; · (intro w0 hSw; (try dsimp only at hSw); go_split_ands; go_simp; try with_reducible rfl)) | fail
  try simp only [Act.put, pL]
  first | refine tkU 18 hS ?_ | (refine tkV 18 (v := ?_) hS ?_ ?_; rotate_left 1; · (intro w0 hSw; (try dsimp only at hSw); go_split_ands; go_simp; try with_reducible rfl)) | fail
  try simp only [Act.put, pL]
  first | refine tkU 19 hS ?_ | (refine tkV 19 (v := ?_) hS ?_ ?_; rotate_left 1; · (intro w0 hSw; (try dsimp only at hSw); go_split_ands; go_simp; try with_reducible rfl)) | fail
  try simp only [Act.put, pL]
  first | refine tkU 20 hS ?_ | (refine tkV 20 (v := ?_) hS ?_ ?_; rotate_left 1; · (intro w0 hSw; (try dsimp only at hSw); go_split_ands; go_simp; try with_reducible rfl)) | fail
  try simp only [Act.put, pL]
  first | refine tkU 21 hS ?_ | (refine tkV 21 (v := ?_) hS ?_ ?_; rotate_left 1; · (intro w0 hSw; (try dsimp only at hSw); go_split_ands; go_simp; try with_reducible rfl)) | fail
  try simp only [Act.put, pL]
  first | refine tkU 22 hS ?_ | (refine tkV 22 (v := ?_) hS ?_ ?_; rotate_left 1; · (intro w0 hSw; (try dsimp only at hSw); go_split_ands; go_simp; try with_reducible rfl)) | fail
  try simp only [Act.put, pL]
  first | refine tkU 23 hS ?_ | (refine tkV 23 (v := ?_) hS ?_ ?_; rotate_left 1; · (intro w0 hSw; (try dsimp only at hSw); go_split_ands; go_simp; try with_reducible rfl)) | fail
  try simp only [Act.put, pL]
  first | refine tkU 24 hS ?_ | (refine tkV 24 (v := ?_) hS ?_ ?_; rotate_left 1; · (intro w0 hSw; (try dsimp only at hSw); go_split_ands; go_simp; try with_reducible rfl)) | fail
  try simp only [Act.put, pL]
  first | refine tkU 25 hS ?_ | (refine tkV 25 (v := ?_) hS ?_ ?_; rotate_left 1; · (intro w0 hSw; (try dsimp only at hSw); go_split_ands; go_simp; try with_reducible rfl)) | fail
  try simp only [Act.put, pL]
  first | refine tkU 26 hS ?_ | (refine tkV 26 (v := ?_) hS ?_ ?_; rotate_left 1; · (intro w0 hSw; (try dsimp only at hSw); go_split_ands; go_simp; try with_reducible rfl)) | fail
  try simp only [Act.put, pL]
  first | refine tkU 27 hS ?_ | (refine tkV 27 (v := ?_) hS ?_ ?_; rotate_left 1; · (intro w0 hSw; (try dsimp only at hSw); go_split_ands; go_simp; try with_reducible rfl)) | fail
  try simp only [Act.put, pL]
  first | refine tkU 28 hS ?_ | (refine tkV 28 (v := ?_) hS ?_ ?_; rotate_left 1; · (intro w0 hSw; (try dsimp only at hSw); go_split_ands; go_simp; try with_reducible rfl)) | fail
  try simp only [Act.put, pL]
  first | refine tkU 29 hS ?_ | (refine tkV 29 (v := ?_) hS ?_ ?_; rotate_left 1; · (intro w0 hSw; (try dsimp only at hSw); go_split_ands; go_simp; try with_reducible rfl)) | fail
  try simp only [Act.put, pL]
  first | refine tkU 30 hS ?_ | (refine tkV 30 (v := ?_) hS ?_ ?_; rotate_left 1; · (intro w0 hSw; (try dsimp only at hSw); go_split_ands; go_simp; try with_reducible rfl)) | fail
  try simp only [Act.put, pL]
  first | refine tkU 31 hS ?_ | (refine tkV 31 (v := ?_) hS ?_ ?_; rotate_left 1; · (intro w0 hSw; (try dsimp only at hSw); go_split_ands; go_simp; try with_reducible rfl)) | fail
  try simp only [Act.put, pL]
  refine wpAnyH_done (by kernel_rfl) ?_ _
  have HD0 := Aside0.mk (below_drew (Below.refl wb.heap.size wb))
  generalize wb.drew = wd at hS HD0 ⊢
  obtain ⟨q0, q1, q2, q3⟩ := hS
  go_wp2_with fail
  go_ret
  exact ⟨ret_z HE.out.symm, HB.out.trans (HD0.out.mono HB.out.size)⟩
set_option maxRecDepth 100000 in
set_option maxHeartbeats 8000000 in
theorem may_oN (k : Int) (ts : List ByteArray) (ks : List Pth) (d : Nat) (hd100 : d ≤ 100) (hk : (ks.length : Int) = kidsN k) (hk1 : k ≠ 1) (hk8 : k ≠ 8) (hd : d ≤ 5) (hn : 0 < ts.length) (w : World) (ok : Nat → Prop) (k9 : Int) (t9 : ByteArray) (A : Option Addr) (n9 c : Nat) (B : Option Addr) (m9 e : Nat)
    (hp : PathAt w ok (.mk k ⟨#[]⟩ ts ks) [.int .i64 k9, .string t9, .slice A n9 c, .slice B m9 e]) (hT : Tabs w) :
    Calls Tryd.prog 52 #[.agg #[.int .i64 k9, .string t9, .slice A n9 c, .slice B m9 e], .int .i64 (d : Int)] w fun e w' => e = .returned (.int .i64 (mayZ (.mk k ⟨#[]⟩ ts ks) d)) ∧ Below w.heap.size w w' := by
  obtain ⟨A1, c1, B1, d1, e0, -, -, hkl, hts, hks⟩ := path_cells hp
  simp only [List.cons.injEq, Value.int.injEq, Value.string.injEq, Value.slice.injEq, true_and, and_true, List.length_nil] at e0
  obtain ⟨e1, e2, ⟨e3, e4, e5⟩, e6, e7, e8⟩ := e0
  have e1 := e1.symm
  have e2 := e2.symm
  subst e1 e2 e3 e4 e5 e6 e7 e8
  obtain ⟨wb, hwb, HB, HN⟩ := boxP w k ⟨#[]⟩ A ts.length c B ks.length e
  have HHW : Aside0 (w.alloc (.cells #[.int .i64 k, .string ⟨#[]⟩, .slice A ts.length c, .slice B ks.length e] 25) = wb) := ⟨hwb.symm⟩
  have HTb := Aside0.mk (hT.below HB.out)
  have HTS : Aside0 (TsAt wb ok A ts) := ⟨hts.move (fun g _ hg => HB.out.block g hg)⟩
  have HKS := Aside0.mk (KidsAt.move (w := w) (w1 := wb) (fun g _ hg => HB.out.block g hg) ks hks)
  have HS : Aside0 (∀ W, Below wb.heap.size wb W → (fun W : World => W.cell? ⟨w.heap.size, 0, none⟩ = some (.int .i64 k) ∧ W.cell? ⟨w.heap.size, 1, none⟩ = some (.string ⟨#[]⟩) ∧ W.cell? ⟨w.heap.size, 2, none⟩ = some (.slice A ts.length c) ∧ W.cell? ⟨w.heap.size, 3, none⟩ = some (.slice B ks.length e)) W) := ⟨fun W h => ⟨(blk_cell (blk_below HN.out h) 0).trans rfl, (blk_cell (blk_below HN.out h) 1).trans rfl, (blk_cell (blk_below HN.out h) 2).trans rfl, (blk_cell (blk_below HN.out h) 3).trans rfl⟩⟩
  clear hwb hp hts hks hT
  have HE : Aside0 (mayZ (.mk k ⟨#[]⟩ ts ks) d = -1) := ⟨may_no (by unfold hereB; rw [if_neg hk1, if_neg hk8, decide_eq_false (show ¬ ts.length = 0 by omega)]; simp)⟩
  have g5 : decide ((5 : Int) < (d : Int)) = false := by rw [decide_eq_false_iff_not]; omega
  have n0 : decide ((0 : Int) < (ts.length : Int)) = true := by rw [decide_eq_true_eq]; omega
  have n0b : decide (0 < ts.length) = true := by rw [decide_eq_true_eq]; omega
  have m1 : (k != 1) = true := by rw [bne_iff_ne]; exact hk1
  have m1e : (k == 1) = false := by rw [beq_eq_false_iff_ne]; exact hk1
  have m8 : (k != 8) = true := by rw [bne_iff_ne]; exact hk8
  have m8e : (k == 8) = false := by rw [beq_eq_false_iff_ne]; exact hk8
  have CK : Aside0 (∀ W, Calls Tryd.prog 84 #[.int .i64 k] W fun e w' => e = .returned (.int .i64 (ks.length : Int)) ∧ w' = W) := ⟨fun W => by
    have := refKids_any k W
    rwa [← hk] at this⟩
  clear hk hn hk1 hk8
  go_enter Tryd.func52, Tryd.ntmps52
  go_upto_region 1 with (fail)
  rw [HHW.out]
  have hS : (fun W : World => W.cell? ⟨w.heap.size, 0, none⟩ = some (.int .i64 k) ∧ W.cell? ⟨w.heap.size, 1, none⟩ = some (.string ⟨#[]⟩) ∧ W.cell? ⟨w.heap.size, 2, none⟩ = some (.slice A ts.length c) ∧ W.cell? ⟨w.heap.size, 3, none⟩ = some (.slice B ks.length e)) wb.drew := HS.out _ (below_drew (Below.refl wb.heap.size wb))
  refine wp_region_held (S := (fun W : World => W.cell? ⟨w.heap.size, 0, none⟩ = some (.int .i64 k) ∧ W.cell? ⟨w.heap.size, 1, none⟩ = some (.string ⟨#[]⟩) ∧ W.cell? ⟨w.heap.size, 2, none⟩ = some (.slice A ts.length c) ∧ W.cell? ⟨w.heap.size, 3, none⟩ = some (.slice B ks.length e))) (by kernel_rfl) ?_
  change wpAnyH _ _ _ _ _ _ _ _ wb.drew
  first | refine tkU 0 hS ?_ | (refine tkV 0 (v := ?_) hS ?_ ?_; rotate_left 1; · (intro w0 hSw; (try dsimp only at hSw); go_split_ands; go_simp; try with_reducible rfl)) | fail
  try simp only [Act.put, pL]
  first | refine tkU 1 hS ?_ | (refine tkV 1 (v := ?_) hS ?_ ?_; rotate_left 1; · (intro w0 hSw; (try dsimp only at hSw); go_split_ands; go_simp; try with_reducible rfl)) | fail
  try simp only [Act.put, pL]
  first | refine tkU 3 hS ?_ | (refine tkV 3 (v := ?_) hS ?_ ?_; rotate_left 1; · (intro w0 hSw; (try dsimp only at hSw); go_split_ands; go_simp; try with_reducible rfl)) | fail
  try simp only [Act.put, pL]
  first | refine tkU 4 hS ?_ | (refine tkV 4 (v := ?_) hS ?_ ?_; rotate_left 1; · (intro w0 hSw; (try dsimp only at hSw); go_split_ands; go_simp; try with_reducible rfl)) | fail
  try simp only [Act.put, pL]
  first | refine tkU 5 hS ?_ | (refine tkV 5 (v := ?_) hS ?_ ?_; rotate_left 1; · (intro w0 hSw; (try dsimp only at hSw); go_split_ands; go_simp; try with_reducible rfl)) | fail
  try simp only [Act.put, pL]
  refine wpAnyH_ready (rs := [2]) (by kernel_rfl) (by simp) ?_
  refine AllReadyH.cons rfl (fun K hK => ?_) AllReadyH.nil
  go_simp
  refine (CK.out _).mono ?_
  rintro e w1 ⟨rfl, rfl⟩
  refine hK.out _ _ hS (fun _ => ?_)
  clear hK K
  try simp only [Act.put, pL]
  first | refine tkU 6 hS ?_ | (refine tkV 6 (v := ?_) hS ?_ ?_; rotate_left 1; · (intro w0 hSw; (try dsimp only at hSw); go_split_ands; go_simp; try with_reducible rfl)) | fail
  try simp only [Act.put, pL]
  first | refine tkU 7 hS ?_ | (refine tkV 7 (v := ?_) hS ?_ ?_; rotate_left 1; · (intro w0 hSw; (try dsimp only at hSw); go_split_ands; go_simp; try with_reducible rfl)) | fail
  try simp only [Act.put, pL]
  first | refine tkU 8 hS ?_ | (refine tkV 8 (v := ?_) hS ?_ ?_; rotate_left 1; · (intro w0 hSw; (try dsimp only at hSw); go_split_ands; go_simp; try with_reducible rfl)) | fail
  try simp only [Act.put, pL]
  first | refine tkU 9 hS ?_ | (refine tkV 9 (v := ?_) hS ?_ ?_; rotate_left 1; · (intro w0 hSw; (try dsimp only at hSw); go_split_ands; go_simp; try with_reducible rfl)) | fail
  try simp only [Act.put, pL]
  first | refine tkU 10 hS ?_ | (refine tkV 10 (v := ?_) hS ?_ ?_; rotate_left 1; · (intro w0 hSw; (try dsimp only at hSw); go_split_ands; go_simp; try with_reducible rfl)) | fail
  try simp only [Act.put, pL]
  first | refine tkU 11 hS ?_ | (refine tkV 11 (v := ?_) hS ?_ ?_; rotate_left 1; · (intro w0 hSw; (try dsimp only at hSw); go_split_ands; go_simp; try with_reducible rfl)) | fail
  try simp only [Act.put, pL]
  first | refine tkU 12 hS ?_ | (refine tkV 12 (v := ?_) hS ?_ ?_; rotate_left 1; · (intro w0 hSw; (try dsimp only at hSw); go_split_ands; go_simp; try with_reducible rfl)) | fail
  try simp only [Act.put, pL]
  first | refine tkU 13 hS ?_ | (refine tkV 13 (v := ?_) hS ?_ ?_; rotate_left 1; · (intro w0 hSw; (try dsimp only at hSw); go_split_ands; go_simp; try with_reducible rfl)) | fail
  try simp only [Act.put, pL]
  first | refine tkU 14 hS ?_ | (refine tkV 14 (v := ?_) hS ?_ ?_; rotate_left 1; · (intro w0 hSw; (try dsimp only at hSw); go_split_ands; go_simp; try with_reducible rfl)) | fail
  try simp only [Act.put, pL]
  first | refine tkU 15 hS ?_ | (refine tkV 15 (v := ?_) hS ?_ ?_; rotate_left 1; · (intro w0 hSw; (try dsimp only at hSw); go_split_ands; go_simp; try with_reducible rfl)) | fail
  try simp only [Act.put, pL]
  first | refine tkU 16 hS ?_ | (refine tkV 16 (v := ?_) hS ?_ ?_; rotate_left 1; · (intro w0 hSw; (try dsimp only at hSw); go_split_ands; go_simp; try with_reducible rfl)) | fail
  try simp only [Act.put, pL]
  first | refine tkU 17 hS ?_ | (refine tkV 17 (v := ?_) hS ?_ ?_; rotate_left 1; · (intro w0 hSw; (try dsimp only at hSw); go_split_ands; go_simp; try with_reducible rfl)) | fail
  try simp only [Act.put, pL]
  first | refine tkU 18 hS ?_ | (refine tkV 18 (v := ?_) hS ?_ ?_; rotate_left 1; · (intro w0 hSw; (try dsimp only at hSw); go_split_ands; go_simp; try with_reducible rfl)) | fail
  try simp only [Act.put, pL]
  first | refine tkU 19 hS ?_ | (refine tkV 19 (v := ?_) hS ?_ ?_; rotate_left 1; · (intro w0 hSw; (try dsimp only at hSw); go_split_ands; go_simp; try with_reducible rfl)) | fail
  try simp only [Act.put, pL]
  first | refine tkU 20 hS ?_ | (refine tkV 20 (v := ?_) hS ?_ ?_; rotate_left 1; · (intro w0 hSw; (try dsimp only at hSw); go_split_ands; go_simp; try with_reducible rfl)) | fail
  try simp only [Act.put, pL]
  first | refine tkU 21 hS ?_ | (refine tkV 21 (v := ?_) hS ?_ ?_; rotate_left 1; · (intro w0 hSw; (try dsimp only at hSw); go_split_ands; go_simp; try with_reducible rfl)) | fail
  try simp only [Act.put, pL]
  first | refine tkU 22 hS ?_ | (refine tkV 22 (v := ?_) hS ?_ ?_; rotate_left 1; · (intro w0 hSw; (try dsimp only at hSw); go_split_ands; go_simp; try with_reducible rfl)) | fail
  try simp only [Act.put, pL]
  first | refine tkU 23 hS ?_ | (refine tkV 23 (v := ?_) hS ?_ ?_; rotate_left 1; · (intro w0 hSw; (try dsimp only at hSw); go_split_ands; go_simp; try with_reducible rfl)) | fail
  try simp only [Act.put, pL]
  first | refine tkU 24 hS ?_ | (refine tkV 24 (v := ?_) hS ?_ ?_; rotate_left 1; · (intro w0 hSw; (try dsimp only at hSw); go_split_ands; go_simp; try with_reducible rfl)) | fail
  try simp only [Act.put, pL]
  first | refine tkU 25 hS ?_ | (refine tkV 25 (v := ?_) hS ?_ ?_; rotate_left 1; · (intro w0 hSw; (try dsimp only at hSw); go_split_ands; go_simp; try with_reducible rfl)) | fail
  try simp only [Act.put, pL]
  first | refine tkU 26 hS ?_ | (refine tkV 26 (v := ?_) hS ?_ ?_; rotate_left 1; · (intro w0 hSw; (try dsimp only at hSw); go_split_ands; go_simp; try with_reducible rfl)) | fail
  try simp only [Act.put, pL]
  first | refine tkU 27 hS ?_ | (refine tkV 27 (v := ?_) hS ?_ ?_; rotate_left 1; · (intro w0 hSw; (try dsimp only at hSw); go_split_ands; go_simp; try with_reducible rfl)) | fail
  try simp only [Act.put, pL]
  first | refine tkU 28 hS ?_ | (refine tkV 28 (v := ?_) hS ?_ ?_; rotate_left 1; · (intro w0 hSw; (try dsimp only at hSw); go_split_ands; go_simp; try with_reducible rfl)) | fail
  try simp only [Act.put, pL]
  first | refine tkU 29 hS ?_ | (refine tkV 29 (v := ?_) hS ?_ ?_; rotate_left 1; · (intro w0 hSw; (try dsimp only at hSw); go_split_ands; go_simp; try with_reducible rfl)) | fail
  try simp only [Act.put, pL]
  first | refine tkU 30 hS ?_ | (refine tkV 30 (v := ?_) hS ?_ ?_; rotate_left 1; · (intro w0 hSw; (try dsimp only at hSw); go_split_ands; go_simp; try with_reducible rfl)) | fail
  try simp only [Act.put, pL]
  first | refine tkU 31 hS ?_ | (refine tkV 31 (v := ?_) hS ?_ ?_; rotate_left 1; · (intro w0 hSw; (try dsimp only at hSw); go_split_ands; go_simp; try with_reducible rfl)) | fail
  try simp only [Act.put, pL]
  refine wpAnyH_done (by kernel_rfl) ?_ _
  have HD0 := Aside0.mk (below_drew (Below.refl wb.heap.size wb))
  generalize wb.drew = wd at hS HD0 ⊢
  obtain ⟨q0, q1, q2, q3⟩ := hS
  go_wp2_with fail
  go_ret
  exact ⟨ret_z HE.out.symm, HB.out.trans (HD0.out.mono HB.out.size)⟩
set_option maxRecDepth 100000 in
set_option maxHeartbeats 8000000 in
theorem may_1I (t : ByteArray) (ks : List Pth) (d : Nat) (hd100 : d ≤ 100) (hk : (ks.length : Int) = kidsN 1) (hd : d ≤ 5) (hi : iriB t = false) (hz : t.size ≤ 1000) (w : World) (ok : Nat → Prop) (k9 : Int) (t9 : ByteArray) (A : Option Addr) (n9 c : Nat) (B : Option Addr) (m9 e : Nat)
    (hp : PathAt w ok (.mk 1 t [] ks) [.int .i64 k9, .string t9, .slice A n9 c, .slice B m9 e]) (hT : Tabs w) :
    Calls Tryd.prog 52 #[.agg #[.int .i64 k9, .string t9, .slice A n9 c, .slice B m9 e], .int .i64 (d : Int)] w fun e w' => e = .returned (.int .i64 (mayZ (.mk 1 t [] ks) d)) ∧ Below w.heap.size w w' := by
  obtain ⟨A1, c1, B1, d1, e0, -, -, hkl, hts, hks⟩ := path_cells hp
  simp only [List.cons.injEq, Value.int.injEq, Value.string.injEq, Value.slice.injEq, true_and, and_true, List.length_nil] at e0
  obtain ⟨e1, e2, ⟨e3, e4, e5⟩, e6, e7, e8⟩ := e0
  have e1 := e1.symm
  have e2 := e2.symm
  subst e1 e2 e3 e4 e5 e6 e7 e8
  obtain ⟨wb, hwb, HB, HN⟩ := boxP w 1 t A 0 c B ks.length e
  have HHW : Aside0 (w.alloc (.cells #[.int .i64 1, .string t, .slice A 0 c, .slice B ks.length e] 25) = wb) := ⟨hwb.symm⟩
  have HTb := Aside0.mk (hT.below HB.out)
  have HTS : Aside0 (TsAt wb ok A []) := ⟨hts.move (fun g _ hg => HB.out.block g hg)⟩
  have HKS := Aside0.mk (KidsAt.move (w := w) (w1 := wb) (fun g _ hg => HB.out.block g hg) ks hks)
  have HS : Aside0 (∀ W, Below wb.heap.size wb W → (fun W : World => W.cell? ⟨w.heap.size, 0, none⟩ = some (.int .i64 1) ∧ W.cell? ⟨w.heap.size, 1, none⟩ = some (.string t) ∧ W.cell? ⟨w.heap.size, 2, none⟩ = some (.slice A 0 c) ∧ W.cell? ⟨w.heap.size, 3, none⟩ = some (.slice B ks.length e)) W) := ⟨fun W h => ⟨(blk_cell (blk_below HN.out h) 0).trans rfl, (blk_cell (blk_below HN.out h) 1).trans rfl, (blk_cell (blk_below HN.out h) 2).trans rfl, (blk_cell (blk_below HN.out h) 3).trans rfl⟩⟩
  clear hwb hp hts hks hT
  have HE : Aside0 (mayZ (.mk 1 t [] ks) d = -1) := ⟨may_no (by unfold hereB; rw [if_pos rfl, hi]; simp)⟩
  have g5 : decide ((5 : Int) < (d : Int)) = false := by rw [decide_eq_false_iff_not]; omega
  have CI : Aside0 (∀ W, Below wb.heap.size wb W → Calls Tryd.prog 85 #[.string t] W fun e w' => e = .returned (.bool false) ∧ Below W.heap.size W w') := ⟨fun W hW => by
    have := refIri_any t W hz (HTb.out.below hW)
    rwa [hi] at this⟩
  have CK : Aside0 (∀ W, Calls Tryd.prog 84 #[.int .i64 1] W fun e w' => e = .returned (.int .i64 (ks.length : Int)) ∧ w' = W) := ⟨fun W => by
    have := refKids_any 1 W
    rwa [← hk] at this⟩
  clear hk hi
  go_enter Tryd.func52, Tryd.ntmps52
  go_upto_region 1 with (fail)
  rw [HHW.out]
  have hS : (fun W : World => W.cell? ⟨w.heap.size, 0, none⟩ = some (.int .i64 1) ∧ W.cell? ⟨w.heap.size, 1, none⟩ = some (.string t) ∧ W.cell? ⟨w.heap.size, 2, none⟩ = some (.slice A 0 c) ∧ W.cell? ⟨w.heap.size, 3, none⟩ = some (.slice B ks.length e)) wb.drew := HS.out _ (below_drew (Below.refl wb.heap.size wb))
  refine wp_region_held (S := (fun W : World => W.cell? ⟨w.heap.size, 0, none⟩ = some (.int .i64 1) ∧ W.cell? ⟨w.heap.size, 1, none⟩ = some (.string t) ∧ W.cell? ⟨w.heap.size, 2, none⟩ = some (.slice A 0 c) ∧ W.cell? ⟨w.heap.size, 3, none⟩ = some (.slice B ks.length e))) (by kernel_rfl) ?_
  change wpAnyH _ _ _ _ _ _ _ _ wb.drew
  first | refine tkU 0 hS ?_ | (refine tkV 0 (v := ?_) hS ?_ ?_; rotate_left 1; · (intro w0 hSw; (try dsimp only at hSw); go_split_ands; go_simp; try with_reducible rfl)) | fail
  try simp only [Act.put, pL]
  first | refine tkU 1 hS ?_ | (refine tkV 1 (v := ?_) hS ?_ ?_; rotate_left 1; · (intro w0 hSw; (try dsimp only at hSw); go_split_ands; go_simp; try with_reducible rfl)) | fail
  try simp only [Act.put, pL]
  first | refine tkU 3 hS ?_ | (refine tkV 3 (v := ?_) hS ?_ ?_; rotate_left 1; · (intro w0 hSw; (try dsimp only at hSw); go_split_ands; go_simp; try with_reducible rfl)) | fail
  try simp only [Act.put, pL]
  first | refine tkU 4 hS ?_ | (refine tkV 4 (v := ?_) hS ?_ ?_; rotate_left 1; · (intro w0 hSw; (try dsimp only at hSw); go_split_ands; go_simp; try with_reducible rfl)) | fail
  try simp only [Act.put, pL]
  first | refine tkU 5 hS ?_ | (refine tkV 5 (v := ?_) hS ?_ ?_; rotate_left 1; · (intro w0 hSw; (try dsimp only at hSw); go_split_ands; go_simp; try with_reducible rfl)) | fail
  try simp only [Act.put, pL]
  refine wpAnyH_ready (rs := [2]) (by kernel_rfl) (by simp) ?_
  refine AllReadyH.cons rfl (fun K hK => ?_) AllReadyH.nil
  go_simp
  refine (CK.out _).mono ?_
  rintro e w1 ⟨rfl, rfl⟩
  refine hK.out _ _ hS (fun _ => ?_)
  clear hK K
  try simp only [Act.put, pL]
  first | refine tkU 6 hS ?_ | (refine tkV 6 (v := ?_) hS ?_ ?_; rotate_left 1; · (intro w0 hSw; (try dsimp only at hSw); go_split_ands; go_simp; try with_reducible rfl)) | fail
  try simp only [Act.put, pL]
  first | refine tkU 7 hS ?_ | (refine tkV 7 (v := ?_) hS ?_ ?_; rotate_left 1; · (intro w0 hSw; (try dsimp only at hSw); go_split_ands; go_simp; try with_reducible rfl)) | fail
  try simp only [Act.put, pL]
  first | refine tkU 8 hS ?_ | (refine tkV 8 (v := ?_) hS ?_ ?_; rotate_left 1; · (intro w0 hSw; (try dsimp only at hSw); go_split_ands; go_simp; try with_reducible rfl)) | fail
  try simp only [Act.put, pL]
  first | refine tkU 9 hS ?_ | (refine tkV 9 (v := ?_) hS ?_ ?_; rotate_left 1; · (intro w0 hSw; (try dsimp only at hSw); go_split_ands; go_simp; try with_reducible rfl)) | fail
  try simp only [Act.put, pL]
  first | refine tkU 10 hS ?_ | (refine tkV 10 (v := ?_) hS ?_ ?_; rotate_left 1; · (intro w0 hSw; (try dsimp only at hSw); go_split_ands; go_simp; try with_reducible rfl)) | fail
  try simp only [Act.put, pL]
  first | refine tkU 11 hS ?_ | (refine tkV 11 (v := ?_) hS ?_ ?_; rotate_left 1; · (intro w0 hSw; (try dsimp only at hSw); go_split_ands; go_simp; try with_reducible rfl)) | fail
  try simp only [Act.put, pL]
  first | refine tkU 12 hS ?_ | (refine tkV 12 (v := ?_) hS ?_ ?_; rotate_left 1; · (intro w0 hSw; (try dsimp only at hSw); go_split_ands; go_simp; try with_reducible rfl)) | fail
  try simp only [Act.put, pL]
  first | refine tkU 13 hS ?_ | (refine tkV 13 (v := ?_) hS ?_ ?_; rotate_left 1; · (intro w0 hSw; (try dsimp only at hSw); go_split_ands; go_simp; try with_reducible rfl)) | fail
  try simp only [Act.put, pL]
  first | refine tkU 14 hS ?_ | (refine tkV 14 (v := ?_) hS ?_ ?_; rotate_left 1; · (intro w0 hSw; (try dsimp only at hSw); go_split_ands; go_simp; try with_reducible rfl)) | fail
  try simp only [Act.put, pL]
  first | refine tkU 15 hS ?_ | (refine tkV 15 (v := ?_) hS ?_ ?_; rotate_left 1; · (intro w0 hSw; (try dsimp only at hSw); go_split_ands; go_simp; try with_reducible rfl)) | fail
  try simp only [Act.put, pL]
  first | refine tkU 16 hS ?_ | (refine tkV 16 (v := ?_) hS ?_ ?_; rotate_left 1; · (intro w0 hSw; (try dsimp only at hSw); go_split_ands; go_simp; try with_reducible rfl)) | fail
  try simp only [Act.put, pL]
  first | refine tkU 17 hS ?_ | (refine tkV 17 (v := ?_) hS ?_ ?_; rotate_left 1; · (intro w0 hSw; (try dsimp only at hSw); go_split_ands; go_simp; try with_reducible rfl)) | fail
  try simp only [Act.put, pL]
  first | refine tkU 18 hS ?_ | (refine tkV 18 (v := ?_) hS ?_ ?_; rotate_left 1; · (intro w0 hSw; (try dsimp only at hSw); go_split_ands; go_simp; try with_reducible rfl)) | fail
  try simp only [Act.put, pL]
  first | refine tkU 19 hS ?_ | (refine tkV 19 (v := ?_) hS ?_ ?_; rotate_left 1; · (intro w0 hSw; (try dsimp only at hSw); go_split_ands; go_simp; try with_reducible rfl)) | fail
  try simp only [Act.put, pL]
  first | refine tkU 20 hS ?_ | (refine tkV 20 (v := ?_) hS ?_ ?_; rotate_left 1; · (intro w0 hSw; (try dsimp only at hSw); go_split_ands; go_simp; try with_reducible rfl)) | fail
  try simp only [Act.put, pL]
  first | refine tkU 21 hS ?_ | (refine tkV 21 (v := ?_) hS ?_ ?_; rotate_left 1; · (intro w0 hSw; (try dsimp only at hSw); go_split_ands; go_simp; try with_reducible rfl)) | fail
  try simp only [Act.put, pL]
  first | refine tkU 22 hS ?_ | (refine tkV 22 (v := ?_) hS ?_ ?_; rotate_left 1; · (intro w0 hSw; (try dsimp only at hSw); go_split_ands; go_simp; try with_reducible rfl)) | fail
  try simp only [Act.put, pL]
  first | refine tkU 23 hS ?_ | (refine tkV 23 (v := ?_) hS ?_ ?_; rotate_left 1; · (intro w0 hSw; (try dsimp only at hSw); go_split_ands; go_simp; try with_reducible rfl)) | fail
  try simp only [Act.put, pL]
  first | refine tkU 24 hS ?_ | (refine tkV 24 (v := ?_) hS ?_ ?_; rotate_left 1; · (intro w0 hSw; (try dsimp only at hSw); go_split_ands; go_simp; try with_reducible rfl)) | fail
  try simp only [Act.put, pL]
  first | refine tkU 25 hS ?_ | (refine tkV 25 (v := ?_) hS ?_ ?_; rotate_left 1; · (intro w0 hSw; (try dsimp only at hSw); go_split_ands; go_simp; try with_reducible rfl)) | fail
  try simp only [Act.put, pL]
  first | refine tkU 26 hS ?_ | (refine tkV 26 (v := ?_) hS ?_ ?_; rotate_left 1; · (intro w0 hSw; (try dsimp only at hSw); go_split_ands; go_simp; try with_reducible rfl)) | fail
  try simp only [Act.put, pL]
  first | refine tkU 27 hS ?_ | (refine tkV 27 (v := ?_) hS ?_ ?_; rotate_left 1; · (intro w0 hSw; (try dsimp only at hSw); go_split_ands; go_simp; try with_reducible rfl)) | fail
  try simp only [Act.put, pL]
  first | refine tkU 28 hS ?_ | (refine tkV 28 (v := ?_) hS ?_ ?_; rotate_left 1; · (intro w0 hSw; (try dsimp only at hSw); go_split_ands; go_simp; try with_reducible rfl)) | fail
  try simp only [Act.put, pL]
  first | refine tkU 29 hS ?_ | (refine tkV 29 (v := ?_) hS ?_ ?_; rotate_left 1; · (intro w0 hSw; (try dsimp only at hSw); go_split_ands; go_simp; try with_reducible rfl)) | fail
  try simp only [Act.put, pL]
  first | refine tkU 30 hS ?_ | (refine tkV 30 (v := ?_) hS ?_ ?_; rotate_left 1; · (intro w0 hSw; (try dsimp only at hSw); go_split_ands; go_simp; try with_reducible rfl)) | fail
  try simp only [Act.put, pL]
  first | refine tkU 31 hS ?_ | (refine tkV 31 (v := ?_) hS ?_ ?_; rotate_left 1; · (intro w0 hSw; (try dsimp only at hSw); go_split_ands; go_simp; try with_reducible rfl)) | fail
  try simp only [Act.put, pL]
  refine wpAnyH_done (by kernel_rfl) ?_ _
  have HD0 := Aside0.mk (below_drew (Below.refl wb.heap.size wb))
  generalize wb.drew = wd at hS HD0 ⊢
  obtain ⟨q0, q1, q2, q3⟩ := hS
  go_wp2_with (go_at_call 85; (with_reducible refine (CI.out _ HD0.out).mono ?_); rintro e w2 ⟨rfl, hb⟩; have HB2 := Aside0.mk (below_then HD0.out HD0.out.size hb); clear hb)
  go_ret
  exact ⟨ret_z HE.out.symm, HB.out.trans (HB2.out.mono HB.out.size)⟩
set_option maxRecDepth 100000 in
set_option maxHeartbeats 8000000 in
theorem may_8E (ts : List ByteArray) (ks : List Pth) (d : Nat) (hd100 : d ≤ 100) (hk : (ks.length : Int) = kidsN 8) (hd : d ≤ 5) (hn : ts.length < 1) (w : World) (ok : Nat → Prop) (k9 : Int) (t9 : ByteArray) (A : Option Addr) (n9 c : Nat) (B : Option Addr) (m9 e : Nat)
    (hp : PathAt w ok (.mk 8 ⟨#[]⟩ ts ks) [.int .i64 k9, .string t9, .slice A n9 c, .slice B m9 e]) (hT : Tabs w) :
    Calls Tryd.prog 52 #[.agg #[.int .i64 k9, .string t9, .slice A n9 c, .slice B m9 e], .int .i64 (d : Int)] w fun e w' => e = .returned (.int .i64 (mayZ (.mk 8 ⟨#[]⟩ ts ks) d)) ∧ Below w.heap.size w w' := by
  obtain ⟨A1, c1, B1, d1, e0, -, -, hkl, hts, hks⟩ := path_cells hp
  simp only [List.cons.injEq, Value.int.injEq, Value.string.injEq, Value.slice.injEq, true_and, and_true, List.length_nil] at e0
  obtain ⟨e1, e2, ⟨e3, e4, e5⟩, e6, e7, e8⟩ := e0
  have e1 := e1.symm
  have e2 := e2.symm
  subst e1 e2 e3 e4 e5 e6 e7 e8
  obtain ⟨wb, hwb, HB, HN⟩ := boxP w 8 ⟨#[]⟩ A ts.length c B ks.length e
  have HHW : Aside0 (w.alloc (.cells #[.int .i64 8, .string ⟨#[]⟩, .slice A ts.length c, .slice B ks.length e] 25) = wb) := ⟨hwb.symm⟩
  have HTb := Aside0.mk (hT.below HB.out)
  have HTS : Aside0 (TsAt wb ok A ts) := ⟨hts.move (fun g _ hg => HB.out.block g hg)⟩
  have HKS := Aside0.mk (KidsAt.move (w := w) (w1 := wb) (fun g _ hg => HB.out.block g hg) ks hks)
  have HS : Aside0 (∀ W, Below wb.heap.size wb W → (fun W : World => W.cell? ⟨w.heap.size, 0, none⟩ = some (.int .i64 8) ∧ W.cell? ⟨w.heap.size, 1, none⟩ = some (.string ⟨#[]⟩) ∧ W.cell? ⟨w.heap.size, 2, none⟩ = some (.slice A ts.length c) ∧ W.cell? ⟨w.heap.size, 3, none⟩ = some (.slice B ks.length e)) W) := ⟨fun W h => ⟨(blk_cell (blk_below HN.out h) 0).trans rfl, (blk_cell (blk_below HN.out h) 1).trans rfl, (blk_cell (blk_below HN.out h) 2).trans rfl, (blk_cell (blk_below HN.out h) 3).trans rfl⟩⟩
  clear hwb hp hts hks hT
  have HE : Aside0 (mayZ (.mk 8 ⟨#[]⟩ ts ks) d = -1) := ⟨may_no (by unfold hereB; rw [if_pos (rfl : (8 : Int) = 8), decide_eq_false (show ¬ 1 ≤ ts.length by omega)]; simp)⟩
  have g5 : decide ((5 : Int) < (d : Int)) = false := by rw [decide_eq_false_iff_not]; omega
  have n0 : decide ((0 : Int) < (ts.length : Int)) = false := by rw [decide_eq_false_iff_not]; omega
  have n0b : decide (0 < ts.length) = false := by rw [decide_eq_false_iff_not]; omega
  have n1 : decide ((ts.length : Int) < (1 : Int)) = true := by rw [decide_eq_true_eq]; omega
  have n1b : decide (ts.length < 1) = true := by rw [decide_eq_true_eq]; omega
  have CK : Aside0 (∀ W, Calls Tryd.prog 84 #[.int .i64 8] W fun e w' => e = .returned (.int .i64 (ks.length : Int)) ∧ w' = W) := ⟨fun W => by
    have := refKids_any 8 W
    rwa [← hk] at this⟩
  clear hk hn
  go_enter Tryd.func52, Tryd.ntmps52
  go_upto_region 1 with (fail)
  rw [HHW.out]
  have hS : (fun W : World => W.cell? ⟨w.heap.size, 0, none⟩ = some (.int .i64 8) ∧ W.cell? ⟨w.heap.size, 1, none⟩ = some (.string ⟨#[]⟩) ∧ W.cell? ⟨w.heap.size, 2, none⟩ = some (.slice A ts.length c) ∧ W.cell? ⟨w.heap.size, 3, none⟩ = some (.slice B ks.length e)) wb.drew := HS.out _ (below_drew (Below.refl wb.heap.size wb))
  refine wp_region_held (S := (fun W : World => W.cell? ⟨w.heap.size, 0, none⟩ = some (.int .i64 8) ∧ W.cell? ⟨w.heap.size, 1, none⟩ = some (.string ⟨#[]⟩) ∧ W.cell? ⟨w.heap.size, 2, none⟩ = some (.slice A ts.length c) ∧ W.cell? ⟨w.heap.size, 3, none⟩ = some (.slice B ks.length e))) (by kernel_rfl) ?_
  change wpAnyH _ _ _ _ _ _ _ _ wb.drew
  first | refine tkU 0 hS ?_ | (refine tkV 0 (v := ?_) hS ?_ ?_; rotate_left 1; · (intro w0 hSw; (try dsimp only at hSw); go_split_ands; go_simp; try with_reducible rfl)) | fail
  try simp only [Act.put, pL]
  first | refine tkU 1 hS ?_ | (refine tkV 1 (v := ?_) hS ?_ ?_; rotate_left 1; · (intro w0 hSw; (try dsimp only at hSw); go_split_ands; go_simp; try with_reducible rfl)) | fail
  try simp only [Act.put, pL]
  first | refine tkU 3 hS ?_ | (refine tkV 3 (v := ?_) hS ?_ ?_; rotate_left 1; · (intro w0 hSw; (try dsimp only at hSw); go_split_ands; go_simp; try with_reducible rfl)) | fail
  try simp only [Act.put, pL]
  first | refine tkU 4 hS ?_ | (refine tkV 4 (v := ?_) hS ?_ ?_; rotate_left 1; · (intro w0 hSw; (try dsimp only at hSw); go_split_ands; go_simp; try with_reducible rfl)) | fail
  try simp only [Act.put, pL]
  first | refine tkU 5 hS ?_ | (refine tkV 5 (v := ?_) hS ?_ ?_; rotate_left 1; · (intro w0 hSw; (try dsimp only at hSw); go_split_ands; go_simp; try with_reducible rfl)) | fail
  try simp only [Act.put, pL]
  refine wpAnyH_ready (rs := [2]) (by kernel_rfl) (by simp) ?_
  refine AllReadyH.cons rfl (fun K hK => ?_) AllReadyH.nil
  go_simp
  refine (CK.out _).mono ?_
  rintro e w1 ⟨rfl, rfl⟩
  refine hK.out _ _ hS (fun _ => ?_)
  clear hK K
  try simp only [Act.put, pL]
  first | refine tkU 6 hS ?_ | (refine tkV 6 (v := ?_) hS ?_ ?_; rotate_left 1; · (intro w0 hSw; (try dsimp only at hSw); go_split_ands; go_simp; try with_reducible rfl)) | fail
  try simp only [Act.put, pL]
  first | refine tkU 7 hS ?_ | (refine tkV 7 (v := ?_) hS ?_ ?_; rotate_left 1; · (intro w0 hSw; (try dsimp only at hSw); go_split_ands; go_simp; try with_reducible rfl)) | fail
  try simp only [Act.put, pL]
  first | refine tkU 8 hS ?_ | (refine tkV 8 (v := ?_) hS ?_ ?_; rotate_left 1; · (intro w0 hSw; (try dsimp only at hSw); go_split_ands; go_simp; try with_reducible rfl)) | fail
  try simp only [Act.put, pL]
  first | refine tkU 9 hS ?_ | (refine tkV 9 (v := ?_) hS ?_ ?_; rotate_left 1; · (intro w0 hSw; (try dsimp only at hSw); go_split_ands; go_simp; try with_reducible rfl)) | fail
  try simp only [Act.put, pL]
  first | refine tkU 10 hS ?_ | (refine tkV 10 (v := ?_) hS ?_ ?_; rotate_left 1; · (intro w0 hSw; (try dsimp only at hSw); go_split_ands; go_simp; try with_reducible rfl)) | fail
  try simp only [Act.put, pL]
  first | refine tkU 11 hS ?_ | (refine tkV 11 (v := ?_) hS ?_ ?_; rotate_left 1; · (intro w0 hSw; (try dsimp only at hSw); go_split_ands; go_simp; try with_reducible rfl)) | fail
  try simp only [Act.put, pL]
  first | refine tkU 12 hS ?_ | (refine tkV 12 (v := ?_) hS ?_ ?_; rotate_left 1; · (intro w0 hSw; (try dsimp only at hSw); go_split_ands; go_simp; try with_reducible rfl)) | fail
  try simp only [Act.put, pL]
  first | refine tkU 13 hS ?_ | (refine tkV 13 (v := ?_) hS ?_ ?_; rotate_left 1; · (intro w0 hSw; (try dsimp only at hSw); go_split_ands; go_simp; try with_reducible rfl)) | fail
  try simp only [Act.put, pL]
  first | refine tkU 14 hS ?_ | (refine tkV 14 (v := ?_) hS ?_ ?_; rotate_left 1; · (intro w0 hSw; (try dsimp only at hSw); go_split_ands; go_simp; try with_reducible rfl)) | fail
  try simp only [Act.put, pL]
  first | refine tkU 15 hS ?_ | (refine tkV 15 (v := ?_) hS ?_ ?_; rotate_left 1; · (intro w0 hSw; (try dsimp only at hSw); go_split_ands; go_simp; try with_reducible rfl)) | fail
  try simp only [Act.put, pL]
  first | refine tkU 16 hS ?_ | (refine tkV 16 (v := ?_) hS ?_ ?_; rotate_left 1; · (intro w0 hSw; (try dsimp only at hSw); go_split_ands; go_simp; try with_reducible rfl)) | fail
  try simp only [Act.put, pL]
  first | refine tkU 17 hS ?_ | (refine tkV 17 (v := ?_) hS ?_ ?_; rotate_left 1; · (intro w0 hSw; (try dsimp only at hSw); go_split_ands; go_simp; try with_reducible rfl)) | fail
  try simp only [Act.put, pL]
  first | refine tkU 18 hS ?_ | (refine tkV 18 (v := ?_) hS ?_ ?_; rotate_left 1; · (intro w0 hSw; (try dsimp only at hSw); go_split_ands; go_simp; try with_reducible rfl)) | fail
  try simp only [Act.put, pL]
  first | refine tkU 19 hS ?_ | (refine tkV 19 (v := ?_) hS ?_ ?_; rotate_left 1; · (intro w0 hSw; (try dsimp only at hSw); go_split_ands; go_simp; try with_reducible rfl)) | fail
  try simp only [Act.put, pL]
  first | refine tkU 20 hS ?_ | (refine tkV 20 (v := ?_) hS ?_ ?_; rotate_left 1; · (intro w0 hSw; (try dsimp only at hSw); go_split_ands; go_simp; try with_reducible rfl)) | fail
  try simp only [Act.put, pL]
  first | refine tkU 21 hS ?_ | (refine tkV 21 (v := ?_) hS ?_ ?_; rotate_left 1; · (intro w0 hSw; (try dsimp only at hSw); go_split_ands; go_simp; try with_reducible rfl)) | fail
  try simp only [Act.put, pL]
  first | refine tkU 22 hS ?_ | (refine tkV 22 (v := ?_) hS ?_ ?_; rotate_left 1; · (intro w0 hSw; (try dsimp only at hSw); go_split_ands; go_simp; try with_reducible rfl)) | fail
  try simp only [Act.put, pL]
  first | refine tkU 23 hS ?_ | (refine tkV 23 (v := ?_) hS ?_ ?_; rotate_left 1; · (intro w0 hSw; (try dsimp only at hSw); go_split_ands; go_simp; try with_reducible rfl)) | fail
  try simp only [Act.put, pL]
  first | refine tkU 24 hS ?_ | (refine tkV 24 (v := ?_) hS ?_ ?_; rotate_left 1; · (intro w0 hSw; (try dsimp only at hSw); go_split_ands; go_simp; try with_reducible rfl)) | fail
  try simp only [Act.put, pL]
  first | refine tkU 25 hS ?_ | (refine tkV 25 (v := ?_) hS ?_ ?_; rotate_left 1; · (intro w0 hSw; (try dsimp only at hSw); go_split_ands; go_simp; try with_reducible rfl)) | fail
  try simp only [Act.put, pL]
  first | refine tkU 26 hS ?_ | (refine tkV 26 (v := ?_) hS ?_ ?_; rotate_left 1; · (intro w0 hSw; (try dsimp only at hSw); go_split_ands; go_simp; try with_reducible rfl)) | fail
  try simp only [Act.put, pL]
  first | refine tkU 27 hS ?_ | (refine tkV 27 (v := ?_) hS ?_ ?_; rotate_left 1; · (intro w0 hSw; (try dsimp only at hSw); go_split_ands; go_simp; try with_reducible rfl)) | fail
  try simp only [Act.put, pL]
  first | refine tkU 28 hS ?_ | (refine tkV 28 (v := ?_) hS ?_ ?_; rotate_left 1; · (intro w0 hSw; (try dsimp only at hSw); go_split_ands; go_simp; try with_reducible rfl)) | fail
  try simp only [Act.put, pL]
  first | refine tkU 29 hS ?_ | (refine tkV 29 (v := ?_) hS ?_ ?_; rotate_left 1; · (intro w0 hSw; (try dsimp only at hSw); go_split_ands; go_simp; try with_reducible rfl)) | fail
  try simp only [Act.put, pL]
  first | refine tkU 30 hS ?_ | (refine tkV 30 (v := ?_) hS ?_ ?_; rotate_left 1; · (intro w0 hSw; (try dsimp only at hSw); go_split_ands; go_simp; try with_reducible rfl)) | fail
  try simp only [Act.put, pL]
  first | refine tkU 31 hS ?_ | (refine tkV 31 (v := ?_) hS ?_ ?_; rotate_left 1; · (intro w0 hSw; (try dsimp only at hSw); go_split_ands; go_simp; try with_reducible rfl)) | fail
  try simp only [Act.put, pL]
  refine wpAnyH_done (by kernel_rfl) ?_ _
  have HD0 := Aside0.mk (below_drew (Below.refl wb.heap.size wb))
  generalize wb.drew = wd at hS HD0 ⊢
  obtain ⟨q0, q1, q2, q3⟩ := hS
  go_wp2_with fail
  go_ret
  exact ⟨ret_z HE.out.symm, HB.out.trans (HD0.out.mono HB.out.size)⟩
set_option maxRecDepth 100000 in
set_option maxHeartbeats 8000000 in
theorem may_8M (ts : List ByteArray) (ks : List Pth) (d : Nat) (hd100 : d ≤ 100) (hk : (ks.length : Int) = kidsN 8) (hd : d ≤ 5) (hn : 4 < ts.length) (w : World) (ok : Nat → Prop) (k9 : Int) (t9 : ByteArray) (A : Option Addr) (n9 c : Nat) (B : Option Addr) (m9 e : Nat)
    (hp : PathAt w ok (.mk 8 ⟨#[]⟩ ts ks) [.int .i64 k9, .string t9, .slice A n9 c, .slice B m9 e]) (hT : Tabs w) :
    Calls Tryd.prog 52 #[.agg #[.int .i64 k9, .string t9, .slice A n9 c, .slice B m9 e], .int .i64 (d : Int)] w fun e w' => e = .returned (.int .i64 (mayZ (.mk 8 ⟨#[]⟩ ts ks) d)) ∧ Below w.heap.size w w' := by
  obtain ⟨A1, c1, B1, d1, e0, -, -, hkl, hts, hks⟩ := path_cells hp
  simp only [List.cons.injEq, Value.int.injEq, Value.string.injEq, Value.slice.injEq, true_and, and_true, List.length_nil] at e0
  obtain ⟨e1, e2, ⟨e3, e4, e5⟩, e6, e7, e8⟩ := e0
  have e1 := e1.symm
  have e2 := e2.symm
  subst e1 e2 e3 e4 e5 e6 e7 e8
  obtain ⟨wb, hwb, HB, HN⟩ := boxP w 8 ⟨#[]⟩ A ts.length c B ks.length e
  have HHW : Aside0 (w.alloc (.cells #[.int .i64 8, .string ⟨#[]⟩, .slice A ts.length c, .slice B ks.length e] 25) = wb) := ⟨hwb.symm⟩
  have HTb := Aside0.mk (hT.below HB.out)
  have HTS : Aside0 (TsAt wb ok A ts) := ⟨hts.move (fun g _ hg => HB.out.block g hg)⟩
  have HKS := Aside0.mk (KidsAt.move (w := w) (w1 := wb) (fun g _ hg => HB.out.block g hg) ks hks)
  have HS : Aside0 (∀ W, Below wb.heap.size wb W → (fun W : World => W.cell? ⟨w.heap.size, 0, none⟩ = some (.int .i64 8) ∧ W.cell? ⟨w.heap.size, 1, none⟩ = some (.string ⟨#[]⟩) ∧ W.cell? ⟨w.heap.size, 2, none⟩ = some (.slice A ts.length c) ∧ W.cell? ⟨w.heap.size, 3, none⟩ = some (.slice B ks.length e)) W) := ⟨fun W h => ⟨(blk_cell (blk_below HN.out h) 0).trans rfl, (blk_cell (blk_below HN.out h) 1).trans rfl, (blk_cell (blk_below HN.out h) 2).trans rfl, (blk_cell (blk_below HN.out h) 3).trans rfl⟩⟩
  clear hwb hp hts hks hT
  have HE : Aside0 (mayZ (.mk 8 ⟨#[]⟩ ts ks) d = -1) := ⟨may_no (by unfold hereB; rw [if_pos (rfl : (8 : Int) = 8), decide_eq_false (show ¬ ts.length ≤ 4 by omega)]; simp)⟩
  have g5 : decide ((5 : Int) < (d : Int)) = false := by rw [decide_eq_false_iff_not]; omega
  have n0 : decide ((0 : Int) < (ts.length : Int)) = true := by rw [decide_eq_true_eq]; omega
  have n0b : decide (0 < ts.length) = true := by rw [decide_eq_true_eq]; omega
  have n1 : decide ((ts.length : Int) < (1 : Int)) = false := by rw [decide_eq_false_iff_not]; omega
  have n1b : decide (ts.length < 1) = false := by rw [decide_eq_false_iff_not]; omega
  have n4 : decide ((4 : Int) < (ts.length : Int)) = true := by rw [decide_eq_true_eq]; omega
  have n4b : decide (4 < ts.length) = true := by rw [decide_eq_true_eq]; omega
  have CK : Aside0 (∀ W, Calls Tryd.prog 84 #[.int .i64 8] W fun e w' => e = .returned (.int .i64 (ks.length : Int)) ∧ w' = W) := ⟨fun W => by
    have := refKids_any 8 W
    rwa [← hk] at this⟩
  clear hk hn
  go_enter Tryd.func52, Tryd.ntmps52
  go_upto_region 1 with (fail)
  rw [HHW.out]
  have hS : (fun W : World => W.cell? ⟨w.heap.size, 0, none⟩ = some (.int .i64 8) ∧ W.cell? ⟨w.heap.size, 1, none⟩ = some (.string ⟨#[]⟩) ∧ W.cell? ⟨w.heap.size, 2, none⟩ = some (.slice A ts.length c) ∧ W.cell? ⟨w.heap.size, 3, none⟩ = some (.slice B ks.length e)) wb.drew := HS.out _ (below_drew (Below.refl wb.heap.size wb))
  refine wp_region_held (S := (fun W : World => W.cell? ⟨w.heap.size, 0, none⟩ = some (.int .i64 8) ∧ W.cell? ⟨w.heap.size, 1, none⟩ = some (.string ⟨#[]⟩) ∧ W.cell? ⟨w.heap.size, 2, none⟩ = some (.slice A ts.length c) ∧ W.cell? ⟨w.heap.size, 3, none⟩ = some (.slice B ks.length e))) (by kernel_rfl) ?_
  change wpAnyH _ _ _ _ _ _ _ _ wb.drew
  first | refine tkU 0 hS ?_ | (refine tkV 0 (v := ?_) hS ?_ ?_; rotate_left 1; · (intro w0 hSw; (try dsimp only at hSw); go_split_ands; go_simp; try with_reducible rfl)) | fail
  try simp only [Act.put, pL]
  first | refine tkU 1 hS ?_ | (refine tkV 1 (v := ?_) hS ?_ ?_; rotate_left 1; · (intro w0 hSw; (try dsimp only at hSw); go_split_ands; go_simp; try with_reducible rfl)) | fail
  try simp only [Act.put, pL]
  first | refine tkU 3 hS ?_ | (refine tkV 3 (v := ?_) hS ?_ ?_; rotate_left 1; · (intro w0 hSw; (try dsimp only at hSw); go_split_ands; go_simp; try with_reducible rfl)) | fail
  try simp only [Act.put, pL]
  first | refine tkU 4 hS ?_ | (refine tkV 4 (v := ?_) hS ?_ ?_; rotate_left 1; · (intro w0 hSw; (try dsimp only at hSw); go_split_ands; go_simp; try with_reducible rfl)) | fail
  try simp only [Act.put, pL]
  first | refine tkU 5 hS ?_ | (refine tkV 5 (v := ?_) hS ?_ ?_; rotate_left 1; · (intro w0 hSw; (try dsimp only at hSw); go_split_ands; go_simp; try with_reducible rfl)) | fail
  try simp only [Act.put, pL]
  refine wpAnyH_ready (rs := [2]) (by kernel_rfl) (by simp) ?_
  refine AllReadyH.cons rfl (fun K hK => ?_) AllReadyH.nil
  go_simp
  refine (CK.out _).mono ?_
  rintro e w1 ⟨rfl, rfl⟩
  refine hK.out _ _ hS (fun _ => ?_)
  clear hK K
  try simp only [Act.put, pL]
  first | refine tkU 6 hS ?_ | (refine tkV 6 (v := ?_) hS ?_ ?_; rotate_left 1; · (intro w0 hSw; (try dsimp only at hSw); go_split_ands; go_simp; try with_reducible rfl)) | fail
  try simp only [Act.put, pL]
  first | refine tkU 7 hS ?_ | (refine tkV 7 (v := ?_) hS ?_ ?_; rotate_left 1; · (intro w0 hSw; (try dsimp only at hSw); go_split_ands; go_simp; try with_reducible rfl)) | fail
  try simp only [Act.put, pL]
  first | refine tkU 8 hS ?_ | (refine tkV 8 (v := ?_) hS ?_ ?_; rotate_left 1; · (intro w0 hSw; (try dsimp only at hSw); go_split_ands; go_simp; try with_reducible rfl)) | fail
  try simp only [Act.put, pL]
  first | refine tkU 9 hS ?_ | (refine tkV 9 (v := ?_) hS ?_ ?_; rotate_left 1; · (intro w0 hSw; (try dsimp only at hSw); go_split_ands; go_simp; try with_reducible rfl)) | fail
  try simp only [Act.put, pL]
  first | refine tkU 10 hS ?_ | (refine tkV 10 (v := ?_) hS ?_ ?_; rotate_left 1; · (intro w0 hSw; (try dsimp only at hSw); go_split_ands; go_simp; try with_reducible rfl)) | fail
  try simp only [Act.put, pL]
  first | refine tkU 11 hS ?_ | (refine tkV 11 (v := ?_) hS ?_ ?_; rotate_left 1; · (intro w0 hSw; (try dsimp only at hSw); go_split_ands; go_simp; try with_reducible rfl)) | fail
  try simp only [Act.put, pL]
  first | refine tkU 12 hS ?_ | (refine tkV 12 (v := ?_) hS ?_ ?_; rotate_left 1; · (intro w0 hSw; (try dsimp only at hSw); go_split_ands; go_simp; try with_reducible rfl)) | fail
  try simp only [Act.put, pL]
  first | refine tkU 13 hS ?_ | (refine tkV 13 (v := ?_) hS ?_ ?_; rotate_left 1; · (intro w0 hSw; (try dsimp only at hSw); go_split_ands; go_simp; try with_reducible rfl)) | fail
  try simp only [Act.put, pL]
  first | refine tkU 14 hS ?_ | (refine tkV 14 (v := ?_) hS ?_ ?_; rotate_left 1; · (intro w0 hSw; (try dsimp only at hSw); go_split_ands; go_simp; try with_reducible rfl)) | fail
  try simp only [Act.put, pL]
  first | refine tkU 15 hS ?_ | (refine tkV 15 (v := ?_) hS ?_ ?_; rotate_left 1; · (intro w0 hSw; (try dsimp only at hSw); go_split_ands; go_simp; try with_reducible rfl)) | fail
  try simp only [Act.put, pL]
  first | refine tkU 16 hS ?_ | (refine tkV 16 (v := ?_) hS ?_ ?_; rotate_left 1; · (intro w0 hSw; (try dsimp only at hSw); go_split_ands; go_simp; try with_reducible rfl)) | fail
  try simp only [Act.put, pL]
  first | refine tkU 17 hS ?_ | (refine tkV 17 (v := ?_) hS ?_ ?_; rotate_left 1; · (intro w0 hSw; (try dsimp only at hSw); go_split_ands; go_simp; try with_reducible rfl)) | fail
  try simp only [Act.put, pL]
  first | refine tkU 18 hS ?_ | (refine tkV 18 (v := ?_) hS ?_ ?_; rotate_left 1; · (intro w0 hSw; (try dsimp only at hSw); go_split_ands; go_simp; try with_reducible rfl)) | fail
  try simp only [Act.put, pL]
  first | refine tkU 19 hS ?_ | (refine tkV 19 (v := ?_) hS ?_ ?_; rotate_left 1; · (intro w0 hSw; (try dsimp only at hSw); go_split_ands; go_simp; try with_reducible rfl)) | fail
  try simp only [Act.put, pL]
  first | refine tkU 20 hS ?_ | (refine tkV 20 (v := ?_) hS ?_ ?_; rotate_left 1; · (intro w0 hSw; (try dsimp only at hSw); go_split_ands; go_simp; try with_reducible rfl)) | fail
  try simp only [Act.put, pL]
  first | refine tkU 21 hS ?_ | (refine tkV 21 (v := ?_) hS ?_ ?_; rotate_left 1; · (intro w0 hSw; (try dsimp only at hSw); go_split_ands; go_simp; try with_reducible rfl)) | fail
  try simp only [Act.put, pL]
  first | refine tkU 22 hS ?_ | (refine tkV 22 (v := ?_) hS ?_ ?_; rotate_left 1; · (intro w0 hSw; (try dsimp only at hSw); go_split_ands; go_simp; try with_reducible rfl)) | fail
  try simp only [Act.put, pL]
  first | refine tkU 23 hS ?_ | (refine tkV 23 (v := ?_) hS ?_ ?_; rotate_left 1; · (intro w0 hSw; (try dsimp only at hSw); go_split_ands; go_simp; try with_reducible rfl)) | fail
  try simp only [Act.put, pL]
  first | refine tkU 24 hS ?_ | (refine tkV 24 (v := ?_) hS ?_ ?_; rotate_left 1; · (intro w0 hSw; (try dsimp only at hSw); go_split_ands; go_simp; try with_reducible rfl)) | fail
  try simp only [Act.put, pL]
  first | refine tkU 25 hS ?_ | (refine tkV 25 (v := ?_) hS ?_ ?_; rotate_left 1; · (intro w0 hSw; (try dsimp only at hSw); go_split_ands; go_simp; try with_reducible rfl)) | fail
  try simp only [Act.put, pL]
  first | refine tkU 26 hS ?_ | (refine tkV 26 (v := ?_) hS ?_ ?_; rotate_left 1; · (intro w0 hSw; (try dsimp only at hSw); go_split_ands; go_simp; try with_reducible rfl)) | fail
  try simp only [Act.put, pL]
  first | refine tkU 27 hS ?_ | (refine tkV 27 (v := ?_) hS ?_ ?_; rotate_left 1; · (intro w0 hSw; (try dsimp only at hSw); go_split_ands; go_simp; try with_reducible rfl)) | fail
  try simp only [Act.put, pL]
  first | refine tkU 28 hS ?_ | (refine tkV 28 (v := ?_) hS ?_ ?_; rotate_left 1; · (intro w0 hSw; (try dsimp only at hSw); go_split_ands; go_simp; try with_reducible rfl)) | fail
  try simp only [Act.put, pL]
  first | refine tkU 29 hS ?_ | (refine tkV 29 (v := ?_) hS ?_ ?_; rotate_left 1; · (intro w0 hSw; (try dsimp only at hSw); go_split_ands; go_simp; try with_reducible rfl)) | fail
  try simp only [Act.put, pL]
  first | refine tkU 30 hS ?_ | (refine tkV 30 (v := ?_) hS ?_ ?_; rotate_left 1; · (intro w0 hSw; (try dsimp only at hSw); go_split_ands; go_simp; try with_reducible rfl)) | fail
  try simp only [Act.put, pL]
  first | refine tkU 31 hS ?_ | (refine tkV 31 (v := ?_) hS ?_ ?_; rotate_left 1; · (intro w0 hSw; (try dsimp only at hSw); go_split_ands; go_simp; try with_reducible rfl)) | fail
  try simp only [Act.put, pL]
  refine wpAnyH_done (by kernel_rfl) ?_ _
  have HD0 := Aside0.mk (below_drew (Below.refl wb.heap.size wb))
  generalize wb.drew = wd at hS HD0 ⊢
  obtain ⟨q0, q1, q2, q3⟩ := hS
  go_wp2_with fail
  go_ret
  exact ⟨ret_z HE.out.symm, HB.out.trans (HD0.out.mono HB.out.size)⟩
end Go.Proofs.YtbaegfjoionojaaDoor.Qy
