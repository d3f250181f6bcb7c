/- The law WaveSame, walked. -/
import Derived.Test.YtbcplleioklkaaaLawWave
set_option linter.unusedSimpArgs false
set_option linter.unusedVariables false
namespace Go.Proofs.Ytbcplleioklkaaa.Lw
open Go.RowKit Go.Proofs.YtbcplleioklkaaaW.PrintWords Go.Proofs.YtbcplleioklkaaaW.PrintLast Go.Proofs.YtbcplleioklkaaaW.PrintMore Go.Proofs.Ytbcplleioklkaaa.Bs Go.Proofs.Ytbcplleioklkaaa.PM Go.Proofs.Ytbcplleioklkaaa.Pk Go.Proofs.Ytbcplleioklkaaa.WM Go.Proofs.Ytbcplleioklkaaa.SM Go.Proofs.Ytbcplleioklkaaa.Wv Go.Proofs.Ytbcplleioklkaaa.Rw Go.Proofs.Ytbcplleioklkaaa.Rb
attribute [local go_sem] max2_int min2_int max_two min_two

theorem rep_may (N : Nat) (v : Int) (hN : N ≤ 200) (h0 : 0 ≤ v) (h1 : v < 1048576) : May (List.replicate N v) 20 := by
  refine ⟨by omega, by omega, by simp; omega, fun k hk => ?_⟩
  rw [List.length_replicate] at hk
  rw [rd_nat]
  simp only [List.getD_eq_getElem?_getD, List.getElem?_replicate, hk, if_true, Option.getD_some]
  exact ⟨h0, by have : ((20 : Int)).toNat = 20 := rfl; rw [this]; omega⟩
theorem rep_cut (N : Nat) (v : Int) (T : Nat) (hT : T ≤ N) : cutI (List.replicate N v) 0 T = List.replicate T v := by
  rw [cutI_zero, Int.toNat_natCast, List.take_replicate]
  congr 1; omega
theorem rep_count (T : Nat) (v : Int) : countI (List.replicate T v) v v = T := by
  rw [countI_all (fun x h => by have := List.eq_of_mem_replicate h; omega), List.length_replicate]
theorem rep_count0 (T : Nat) (v : Int) : countI (List.replicate T v) (v + 1) (v + 1) = 0 :=
  countI_none (fun x h => by have := List.eq_of_mem_replicate h; omega)
theorem rep_select (v : Int) (N : Nat) : ∀ k i : Int, selectI v k (List.replicate N v) i = if 0 ≤ k ∧ k < N then i + k else -1 := by
  induction N with
  | zero => intro k i; rw [if_neg (by omega)]; rfl
  | succ N ih =>
    intro k i
    rw [List.replicate_succ, selectI, if_pos rfl]
    by_cases c : k = 0
    · rw [if_pos c, if_pos (by omega), c]; omega
    · rw [if_neg c, ih]
      by_cases c2 : 0 ≤ k ∧ k < (N + 1 : Nat)
      · rw [if_pos c2, if_pos (by omega)]; omega
      · rw [if_neg c2, if_neg (by omega)]
theorem rep_next (N : Nat) (v lo : Int) (h0 : 0 ≤ v) : nextI (List.replicate N v) lo = if 0 < N ∧ lo ≤ v then v else -1 := by
  rcases nextI_spec (xs := List.replicate N v) (lo := lo) (fun x h => by have := List.eq_of_mem_replicate h; omega) with ⟨h1, h2⟩ | ⟨h1, h2, h3⟩
  · rw [h1]
    by_cases c : 0 < N ∧ lo ≤ v
    · have := h2 v (by rw [List.mem_replicate]; exact ⟨by omega, rfl⟩); omega
    · rw [if_neg c]
  · have h4 := List.mem_replicate.1 h1
    rw [if_pos ⟨by omega, by omega⟩]
    exact h4.2
/-- The row while it is filled. -/
def fillAt (N i : Nat) (v : Int) : List Int := List.replicate i v ++ List.replicate (N - i) 0
theorem fillAt_length (N i : Nat) (v : Int) (h : i ≤ N) : (fillAt N i v).length = N := by simp [fillAt]; omega
theorem fillAt_zero (N : Nat) (v : Int) : fillAt N 0 v = List.replicate N 0 := by simp [fillAt]
theorem fillAt_full (N : Nat) (v : Int) : fillAt N N v = List.replicate N v := by simp [fillAt]
theorem fillAt_set (N i : Nat) (v : Int) (h : i < N) : (fillAt N i v).set i v = fillAt N (i + 1) v := by
  obtain ⟨k, hk⟩ : ∃ k, N - i = k + 1 := ⟨N - i - 1, by omega⟩
  have h2 : N - (i + 1) = k := by omega
  unfold fillAt
  rw [hk, h2, List.set_append_right _ _ (by simp), List.length_replicate, Nat.sub_self, List.replicate_succ, List.set_cons_zero, List.replicate_succ']
  simp
set_option maxRecDepth 100000 in
set_option maxHeartbeats 4000000 in
theorem same_in (N T : Nat) (v : Int) (w : World) (hN : N ≤ 200) (hT : T ≤ N) (hv0 : 0 ≤ v) (hv1 : v < 1048576) :
    Calls Try.prog 12 #[.int .i64 N, .int .i64 v, .int .i64 T] w fun e w' => e = .returned (.bool true) ∧ Below w.heap.size w w' := by
  have HS := Aside0.mk (fillAt_zero N v).symm
  have HM := Aside0.mk (rep_may N v hN hv0 hv1)
  have HLEN : Aside0 ((List.replicate N v).length = N) := ⟨by simp⟩
  have HWF : Aside0 (∀ i : Nat, -9223372036854775808 ≤ rd (List.replicate N v) i ∧ rd (List.replicate N v) i ≤ 9223372036854775807) := ⟨fun i =>
    mem_range (lo := -9223372036854775808) (hi := 9223372036854775807) (fun x h => by have := List.eq_of_mem_replicate h; omega) (by omega) i⟩
  have HB0 := Aside0.mk (Below.refl w.heap.size w)
  have R1 : Aside0 (countI (cutI (List.replicate N v) 0 T) v v = T) := ⟨by rw [rep_cut N v T hT, rep_count]⟩
  have R2 : Aside0 (countI (cutI (List.replicate N v) 0 T) (v + 1) (v + 1) = 0) := ⟨by rw [rep_cut N v T hT, rep_count0]⟩
  have R3 : Aside0 (nextI (cutI (List.replicate N v) 0 N) (v + 1) = -1) := ⟨by rw [rep_cut N v N (Nat.le_refl _), rep_next N v _ hv0, if_neg (by omega)]⟩
  have R4 : Aside0 (nextI (cutI (List.replicate N v) 0 N) 0 = if 0 < N then v else -1) := ⟨by
    rw [rep_cut N v N (Nat.le_refl _), rep_next N v _ hv0]
    by_cases c : 0 < N
    · rw [if_pos ⟨c, hv0⟩, if_pos c]
    · rw [if_neg (by omega), if_neg c]⟩
  have R5 : Aside0 (selectI v T (List.replicate N v) 0 = if T < N then (T : Int) else -1) := ⟨by
    rw [rep_select]
    by_cases c : T < N
    · rw [if_pos (by omega), if_pos c]; omega
    · rw [if_neg (by omega), if_neg c]⟩
  go_enter Try.func12, Try.ntmps12
  go_wp2_with (first
    | (at_make; go_loud (refine Kd.R_make (Kd.int .i64) _ 3 rfl (N := 37) rfl 26 _ _ rfl _ rfl rfl Try.underlying26 (.int .i64 0) 8 info_int rfl (by decide) (by omega) 0 (ok := fun _ => True) (okp := fun _ => True) rfl (fun _ hk => hk) trivial ?c1 ?c2 (Below.refl _ _) (Nat.le_refl _) ?_); (case c1 => omega); (case c2 => omega); intro v106 w8 ho9 hb hg_ hnew_; go_loud (rw [Int.toNat_natCast, HS.out] at ho9); obtain ⟨A1, c1, e1⟩ := Kd.R_slice ho9; rw [fillAt_length _ _ _ (Nat.zero_le _)] at e1; subst e1; have HO := Aside0.mk ho9; have HB := Aside0.mk hb; clear hg_ hnew_ ho9 hb))
  go_loopw [8] (fun x wr => ∃ i : Nat, x = .int .i64 i ∧ i ≤ N ∧ Aside0 (Kd.R (Kd.int .i64) 3 wr w.heap.size (fun _ => True) (.slice A1 N c1) (fillAt N i v)) ∧ Aside0 (Below w.heap.size w wr)) (fun x _ => N - (intOf x).toNat)
  case atStart => exact ⟨0, rfl, by omega, HO, HB⟩
  case round =>
    clear HO HB
    obtain ⟨i, rfl, hi, HO, HB⟩ := hrel
    by_cases hlt : i < N
    · obtain ⟨g, cap, eg, hg1, hg2, cells, hcells⟩ := Kd.R_form HO.out (by rw [fillAt_length _ _ _ hi]; omega)
      injection eg with f1 f2 f3
      subst f1
      obtain ⟨hxc, hfc⟩ := at_own HO.out i (by omega)
      clear hcells f2 f3
      go_wp2
      go_roundw
      case rel =>
        refine ⟨i + 1, by go_num, by omega, ⟨?_⟩, ⟨HB.out.setCell hg1 _⟩⟩
        rw [← fillAt_set N i v hlt]
        exact put_own HO.out i v
      case measure => simp [intOf]; omega
    · have hin : i = N := by omega
      subst hin
      have HO2 := HO.out
      rw [fillAt_full] at HO2
      have HO3 := Aside0.mk HO2
      clear HO HO2
      have C2 := Aside0.mk (new_n (n := i) A1 c1 (List.replicate i v) HLEN.out 20 wr (reads_n HO3.out).2.2 (reads_n HO3.out).2.1 (by omega) HWF.out HM.out)
      clear HWF HM HO3
      by_cases c1 : T < i <;> by_cases c2 : 0 < i
      rotate_left 1
      · omega
      all_goals
        have S5 : Aside0 ((if T < i then (T : Int) else -1) = (if T < i then (T : Int) else -1)) := ⟨rfl⟩
        simp only [c1, c2, if_true, if_false] at R4 R5
        go_wp2_with (first
          | (go_at_call 35; (with_reducible refine C2.out.mono ?_); rintro e w7 ⟨u, rfl, hv, hb⟩; obtain ⟨bk, rfl⟩ := IsWave.form hv; have n1 := Aside0.mk (below_step HB.out hb); clear HB; have HB := n1; clear n1; have HV := Aside0.mk hv; clear hv hb)
          | (go_at_call 37; (with_reducible refine (rank_any HV.out _ _ (by rw [HLEN.out]; omega)).mono ?_); rintro e w3 ⟨rfl, rfl⟩; first | rw [R1.out] | rw [R2.out])
          | (go_at_call 42; (with_reducible refine (select_any HV.out _ _ (by rw [HLEN.out]; omega) (by omega) (by omega)).mono ?_); rintro e w3 ⟨rfl, rfl⟩; rw [R5.out])
          | (go_at_call 44; (with_reducible refine (next_any HV.out _ _ _ (by rw [HLEN.out]; omega)).mono ?_); rintro e w3 ⟨rfl, rfl⟩; first | rw [R3.out] | rw [R4.out])
          | (go_at_call 36; (with_reducible refine (count_any HV.out _ _ _ _ (by rw [HLEN.out]; omega)).mono ?_); rintro e w3 ⟨rfl, rfl⟩; rw [R1.out])
          | (go_at_call 38; (with_reducible refine (known_w _).mono ?_); rintro e w3 ⟨rfl, hb⟩; have n1 := Aside0.mk (below_step HB.out hb); clear HB; have HB := n1; clear n1; clear hb))
        go_ret
        exact ⟨rfl, HB.out⟩
theorem waveSame_law (n v at_ : Int) (w : World) (h0 : (Lit.int .i64 n).wf = true) (h1 : (Lit.int .i64 v).wf = true) (h2 : (Lit.int .i64 at_).wf = true) :
    Calls Try.prog 12 #[.int .i64 n, .int .i64 v, .int .i64 at_] w fun e w' => e = .returned (.bool true) ∧ Below w.heap.size w w' := by
  clear h0 h1 h2
  by_cases hin : 0 ≤ n ∧ n ≤ 200 ∧ 0 ≤ v ∧ v < 1048576 ∧ 0 ≤ at_ ∧ at_ ≤ n
  · obtain ⟨N, rfl⟩ := Int.eq_ofNat_of_zero_le hin.1
    obtain ⟨T, rfl⟩ := Int.eq_ofNat_of_zero_le hin.2.2.2.2.1
    exact same_in N T v w (by omega) (by omega) hin.2.2.1 hin.2.2.2.1
  · have hor : n < 0 ∨ (0 ≤ n ∧ 200 < n) ∨ (0 ≤ n ∧ n ≤ 200 ∧ v < 0) ∨ (0 ≤ n ∧ n ≤ 200 ∧ 0 ≤ v ∧ 1048576 ≤ v) ∨ (0 ≤ n ∧ n ≤ 200 ∧ 0 ≤ v ∧ v < 1048576 ∧ at_ < 0) ∨ (0 ≤ n ∧ n ≤ 200 ∧ 0 ≤ v ∧ v < 1048576 ∧ 0 ≤ at_ ∧ n < at_) := by omega
    clear hin
    rcases hor with i1 | ⟨i1, i2⟩ | ⟨i1, i2, i3⟩ | ⟨i1, i2, i3, i4⟩ | ⟨i1, i2, i3, i4, i5⟩ | ⟨i1, i2, i3, i4, i5, i6⟩
    all_goals
      go_enter Try.func12, Try.ntmps12
      go_wp2
      go_ret
      exact ⟨rfl, Below.refl _ _⟩
end Go.Proofs.Ytbcplleioklkaaa.Lw
