/- The laws PackMany and PackWider, walked. -/
import Derived.Test.YtejnmbgjledgeaaLawTells
set_option linter.unusedSimpArgs false
set_option linter.unusedVariables false
namespace Go.Proofs.Ytejnmbgjledgeaa.Lb
open Go.RowKit Go.Proofs.YtejnmbgjledgeaaW.PrintWords Go.Proofs.YtejnmbgjledgeaaW.PrintLast Go.Proofs.YtejnmbgjledgeaaW.PrintMore Go.Proofs.Ytejnmbgjledgeaa.Bs Go.Proofs.Ytejnmbgjledgeaa.PM Go.Proofs.Ytejnmbgjledgeaa.Pk Go.Proofs.Ytejnmbgjledgeaa.Rb
attribute [local go_sem] max2_int min2_int max_two min_two

theorem rd_zeros (n i : Nat) : rd (List.replicate n (0 : Int)) (i : Int) = 0 := by
  rw [rd_nat, List.getD_eq_getElem?_getD, List.getElem?_replicate]; split <;> rfl
theorem zeros_ok (n wd : Nat) : AllOk (List.replicate n 0) wd := fun k _ => by
  rw [rd_zeros]
  exact ⟨Int.le_refl _, by have := Nat.two_pow_pos wd; exact_mod_cast this⟩
theorem zeros_wf (n : Nat) : ∀ i : Nat, -9223372036854775808 ≤ rd (List.replicate n (0 : Int)) i ∧ rd (List.replicate n (0 : Int)) i ≤ 9223372036854775807 := fun i => by
  rw [rd_zeros]; omega
theorem many_out (n wd : Int) (w : World) (h : n < 0 ∨ (0 ≤ n ∧ 1100 < n) ∨ (0 ≤ n ∧ n ≤ 1100 ∧ wd < 0) ∨ (0 ≤ n ∧ n ≤ 1100 ∧ 0 ≤ wd ∧ 20 < wd)) :
    Calls Try.prog 9 #[.int .i64 n, .int .i64 wd] w fun e w' => e = .returned (.bool true) ∧ Below w.heap.size w w' := by
  rcases h with h | ⟨h, h2⟩ | ⟨h, h2, h3⟩ | ⟨h, h2, h3, h4⟩
  all_goals
    go_enter Try.func9, Try.ntmps9
    go_wp2
    go_ret
    exact ⟨rfl, Below.refl _ _⟩
set_option maxHeartbeats 2000000 in
theorem many_in (n wd : Nat) (w : World) (hn : n ≤ 1100) (hw : wd ≤ 20) :
    Calls Try.prog 9 #[.int .i64 n, .int .i64 wd] w fun e w' => e = .returned (.bool true) ∧ Below w.heap.size w w' := by
  have HB := Aside0.mk (Below.refl w.heap.size w)
  obtain ⟨L, hL⟩ : ∃ L, L = List.replicate n (0 : Int) := ⟨_, rfl⟩
  have hlen : L.length = n := by rw [hL]; simp
  have hwf : ∀ i : Nat, -9223372036854775808 ≤ rd L i ∧ rd L i ≤ 9223372036854775807 := by rw [hL]; exact zeros_wf n
  have hok : AllOk L wd := by rw [hL]; exact zeros_ok n wd
  have HL := Aside0.mk hL
  have HLEN := Aside0.mk hlen
  have HWF := Aside0.mk hwf
  by_cases hbig : 1000 < n
  · have HP : Aside0 (packR L wd = ([], 1)) := ⟨by unfold packR; rw [if_neg (fun h => by have := h.2.2.1; omega)]⟩
    have HU : Aside0 (unpackR [] n wd = ([], 1)) := ⟨by unfold unpackR; rw [if_neg (fun h => by have := h.2.2.2; omega)]⟩
    clear hL hlen hwf hok
    go_enter Try.func9, Try.ntmps9
    go_wp2_with (first
      | (at_make; refine Kd.R_make (Kd.int .i64) _ 3 rfl (N := 25) rfl 26 _ _ rfl _ rfl rfl Try.underlying26 (.int .i64 0) 8 info_int rfl (by decide) (by omega) 0 (ok := fun _ => True) (okp := fun _ => True) rfl (fun _ hk => hk) trivial ?c1 ?c2 (Below.refl _ _) (Nat.le_refl _) ?_; (case c1 => omega); (case c2 => omega); intro v1 w1 ho hb hg_ hnew_; rw [Int.toNat_natCast, ← HL.out] at ho; obtain ⟨A1, c1, e1⟩ := Kd.R_slice ho; rw [HLEN.out] at e1; subst e1; have n1 := Aside0.mk (below_step HB.out hb); clear HB; have HB := n1; clear n1; have C1 := Aside0.mk (pack_n (n := n) HLEN.out A1 c1 wd w1 (reads_n ho).2.2 (reads_n ho).2.1 (by omega) HWF.out); clear hg_ hnew_ ho hb)
      | (go_at_call 10; (with_reducible refine C1.out.mono ?_); rintro e w2 ⟨v, rfl, hv, hb⟩; rw [HP.out] at hv ⊢; obtain ⟨A2, c2, e2⟩ := Kd.R_slice hv; replace e2 : v = .slice A2 0 c2 := e2; subst e2; have n1 := Aside0.mk (below_step HB.out hb); clear HB; have HB := n1; clear n1; have C2 := Aside0.mk (unpack_any (m := 0) (b := []) rfl A2 c2 n wd w2 (reads_n hv).2.2 (by omega) (fun x hx => by simp at hx)); clear hv hb)
      | (go_at_call 14; (with_reducible refine C2.out.mono ?_); rintro e w5 ⟨v, rfl, hv, hb⟩; rw [HU.out]; have n1 := Aside0.mk (below_step HB.out hb); clear HB hv hb; have HB := n1; clear n1)
      | (go_at_call 12; (with_reducible refine (known_any _).mono ?_); rintro e w11 ⟨rfl, hb⟩; have n2 := Aside0.mk (below_step HB.out hb); clear HB hb; have HB := n2; clear n2))
    go_ret
    exact ⟨rfl, HB.out⟩
  · have hm : May L wd := ⟨by omega, by omega, by omega, by simpa using hok⟩
    have HP := Aside0.mk (packR_may hm)
    have hu := unpackR_back hm
    rw [hlen] at hu
    have HU := Aside0.mk hu
    have HBY := Aside0.mk (may_bytes hm)
    clear hL hlen hwf hok hm hu
    go_enter Try.func9, Try.ntmps9
    go_wp2_with (first
      | (at_make; refine Kd.R_make (Kd.int .i64) _ 3 rfl (N := 25) rfl 26 _ _ rfl _ rfl rfl Try.underlying26 (.int .i64 0) 8 info_int rfl (by decide) (by omega) 0 (ok := fun _ => True) (okp := fun _ => True) rfl (fun _ hk => hk) trivial ?c1 ?c2 (Below.refl _ _) (Nat.le_refl _) ?_; (case c1 => omega); (case c2 => omega); intro v1 w1 ho hb hg_ hnew_; rw [Int.toNat_natCast, ← HL.out] at ho; obtain ⟨A1, c1, e1⟩ := Kd.R_slice ho; rw [HLEN.out] at e1; subst e1; have n1 := Aside0.mk (below_step HB.out hb); clear HB; have HB := n1; clear n1; have C1 := Aside0.mk (pack_n (n := n) HLEN.out A1 c1 wd w1 (reads_n ho).2.2 (reads_n ho).2.1 (by omega) HWF.out); clear hg_ hnew_ ho hb)
      | (go_at_call 10; (with_reducible refine C1.out.mono ?_); rintro e w2 ⟨v, rfl, hv, hb⟩; rw [HP.out] at hv ⊢; obtain ⟨A2, c2, e2⟩ := Kd.R_slice hv; subst e2; have n1 := Aside0.mk (below_step HB.out hb); clear HB; have HB := n1; clear n1; have C2 := Aside0.mk (unpack_any (b := packed L wd) rfl A2 c2 n wd w2 (reads_n hv).2.2 (reads_n hv).2.1 HBY.out); clear hv hb)
      | (go_at_call 14; (with_reducible refine C2.out.mono ?_); rintro e w5 ⟨v, rfl, hv, hb⟩; rw [HU.out] at hv ⊢; obtain ⟨A3, c3, e3⟩ := Kd.R_slice hv; replace e3 : v = .slice A3 L.length c3 := e3; rw [HLEN.out] at e3; subst e3; have n1 := Aside0.mk (below_step HB.out hb); clear HB hv hb; have HB := n1; clear n1)
      | (go_at_call 12; (with_reducible refine (known_any _).mono ?_); rintro e w11 ⟨rfl, hb⟩; have n2 := Aside0.mk (below_step HB.out hb); clear HB hb; have HB := n2; clear n2))
    go_ret
    exact ⟨rfl, HB.out⟩
theorem packMany_law (n wd : Int) (w : World) (h0 : (Lit.int .i64 n).wf = true) (h1 : (Lit.int .i64 wd).wf = true) :
    Calls Try.prog 9 #[.int .i64 n, .int .i64 wd] w fun e w' => e = .returned (.bool true) ∧ Below w.heap.size w w' := by
  by_cases h : 0 ≤ n ∧ n ≤ 1100 ∧ 0 ≤ wd ∧ wd ≤ 20
  · obtain ⟨a, b, c, d⟩ := h
    obtain ⟨n, rfl⟩ := Int.eq_ofNat_of_zero_le a
    obtain ⟨v, rfl⟩ := Int.eq_ofNat_of_zero_le c
    exact many_in n v w (by omega) (by omega)
  · exact many_out n wd w (by omega)
end Go.Proofs.Ytejnmbgjledgeaa.Lb
