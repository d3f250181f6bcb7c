/- The law PackWider, walked. -/
import Derived.Test.YtejnmbgjledgeaaLawMany
set_option linter.unusedSimpArgs false
set_option linter.unusedVariables false
namespace Go.Proofs.Ytejnmbgjledgeaa.Lb
open Go.RowKit Go.Proofs.YtejnmbgjledgeaaW.PrintWords Go.Proofs.YtejnmbgjledgeaaW.PrintLast Go.Proofs.YtejnmbgjledgeaaW.PrintMore Go.Proofs.Ytejnmbgjledgeaa.Bs Go.Proofs.Ytejnmbgjledgeaa.PM Go.Proofs.Ytejnmbgjledgeaa.Pk Go.Proofs.Ytejnmbgjledgeaa.Rb
attribute [local go_sem] max2_int min2_int max_two min_two

theorem packed_zeros (n wd : Nat) (hw : wd ≤ 20) : packed (List.replicate n 0) wd = zeroBs (n * wd) := by
  obtain ⟨h1, h2⟩ := packed_spec hw (zeros_ok n wd)
  apply bytes_ext h1 (bytes_start _)
  · rw [packed_length, zeroBs_length]; simp
  · intro q _
    rw [h2, bit_start, rd_zeros]; simp
theorem rd_zeroBs (n i : Nat) : rd (zeroBs n) (i : Int) = 0 := by
  unfold zeroBs
  exact rd_zeros _ _
theorem may_more {l : List Int} {wd m : Nat} (h : May l wd) (hm : wd + m ≤ 20) : May l ((wd : Int) + m) := by
  obtain ⟨h1, h2, h3, h4⟩ := h
  refine ⟨by omega, by omega, h3, fun k hk => ?_⟩
  obtain ⟨h5, h6⟩ := h4 k hk
  refine ⟨h5, ?_⟩
  have e : ((wd : Int) + m).toNat = wd + m := by omega
  rw [e]
  simp only [Int.toNat_natCast] at h6
  have : (2 : Int) ^ wd ≤ 2 ^ (wd + m) := by
    have := Nat.pow_le_pow_right (n := 2) (by decide) (show wd ≤ wd + m by omega)
    exact_mod_cast this
  omega
theorem wider_out (A : Option Addr) (c : Nat) (l : List Int) (wd more : Int) (w : World) (hl : l.length ≤ 9223372036854775807) (h : 200 < l.length ∨ (l.length ≤ 200 ∧ more < 0) ∨ (l.length ≤ 200 ∧ 0 ≤ more ∧ 20 < more) ∨ (l.length ≤ 200 ∧ 0 ≤ more ∧ more ≤ 20 ∧ wd < 0) ∨ (l.length ≤ 200 ∧ 0 ≤ more ∧ more ≤ 20 ∧ 0 ≤ wd ∧ 20 < wd)) :
    Calls Try.prog 8 #[.slice A l.length c, .int .i64 wd, .int .i64 more] w fun e w' => e = .returned (.bool true) ∧ Below w.heap.size w w' := by
  rcases h with h | ⟨h, h2⟩ | ⟨h, h2, h3⟩ | ⟨h, h2, h3, h4⟩ | ⟨h, h2, h3, h4, h5⟩
  all_goals
    go_enter Try.func8, Try.ntmps8
    go_wp2
    go_ret
    exact ⟨rfl, Below.refl _ _⟩
theorem wider_may (A : Option Addr) (c : Nat) (l : List Int) (wd more : Int) (w : World) (hr : Kd.C (Kd.int .i64) w A l.length l) (hw : ∀ x ∈ l, (Lit.int .i64 x).wf = true) (h : l.length ≤ 200) (h2 : 0 ≤ more) (h3 : more ≤ 20) (h4 : 0 ≤ wd) (h5 : wd ≤ 20) (h6 : ¬ May l wd ∨ (May l wd ∧ 20 < wd + more)) :
    Calls Try.prog 8 #[.slice A l.length c, .int .i64 wd, .int .i64 more] w fun e w' => e = .returned (.bool true) ∧ Below w.heap.size w w' := by
  have C1 := refMay (n := l.length) rfl A c wd w hr (by omega) (rows_i64 hw)
  rcases h6 with h6 | ⟨h6, h7⟩
  · rw [decide_eq_false h6] at C1
    have C2 := Aside0.mk C1
    clear C1 h6 hr hw
    go_enter Try.func8, Try.ntmps8
    go_wp2_with (first | (go_at_call 18; (with_reducible refine C2.out.mono ?_); rintro e w2 ⟨rfl, hb⟩; have HB := Aside0.mk hb; clear hb))
    go_ret
    exact ⟨rfl, HB.out⟩
  · rw [decide_eq_true h6] at C1
    have C2 := Aside0.mk C1
    clear C1 h6 hr hw
    go_enter Try.func8, Try.ntmps8
    go_wp2_with (first | (go_at_call 18; (with_reducible refine C2.out.mono ?_); rintro e w2 ⟨rfl, hb⟩; have HB := Aside0.mk hb; clear hb))
    go_ret
    exact ⟨rfl, HB.out⟩
set_option maxHeartbeats 2000000 in
set_option maxRecDepth 100000 in
theorem wider_in (A : Option Addr) (c : Nat) (l : List Int) (wd more : Nat) (w : World) (hr : Kd.C (Kd.int .i64) w A l.length l) (hc : l.length ≤ c) (hw : ∀ x ∈ l, (Lit.int .i64 x).wf = true) (hl : l.length ≤ 200) (hm : May l wd) (hs : wd + more ≤ 20) :
    Calls Try.prog 8 #[.slice A l.length c, .int .i64 wd, .int .i64 more] w fun e w' => e = .returned (.bool true) ∧ Below w.heap.size w w' := by
  have HB := Aside0.mk (Below.refl w.heap.size w)
  have hm2 := may_more hm hs
  have C0 := refMay (n := l.length) rfl A c wd w hr (by omega) (rows_i64 hw)
  rw [decide_eq_true hm] at C0
  have C0 := Aside0.mk C0
  have C1 := Aside0.mk (fun w1 hb => pack_any A c l ((wd : Int) + more) w1 (Kd.C_below (w1 := w1) hr hb) hc (by omega) (rows_i64 hw))
  have e1 : ((wd : Int) + more) = ((wd + more : Nat) : Int) := by omega
  rw [e1] at hm2
  have hp := packR_may hm2
  have hu := unpackR_back hm2
  have hby := may_bytes hm2
  rw [← e1] at hp hu
  obtain ⟨P, hP⟩ : ∃ P, P = packed l (wd + more) := ⟨_, rfl⟩
  rw [← hP] at hp hu hby
  rw [hp] at C1
  have HU := Aside0.mk hu
  have HBY := Aside0.mk hby
  obtain ⟨L, hL⟩ : ∃ L, L = List.replicate l.length (0 : Int) := ⟨_, rfl⟩
  have hlen : L.length = l.length := by rw [hL]; simp
  have hwf : ∀ i : Nat, -9223372036854775808 ≤ rd L i ∧ rd L i ≤ 9223372036854775807 := by rw [hL]; exact zeros_wf _
  have hok : AllOk L wd := by rw [hL]; exact zeros_ok _ wd
  have hz : packR L wd = (zeroBs (l.length * wd), 0) := by
    rw [packed_may (by omega) (by omega) hok, hL, packed_zeros _ _ (by omega)]
  have HL := Aside0.mk hL
  have HLEN := Aside0.mk hlen
  have HWF := Aside0.mk hwf
  have HZ := Aside0.mk hz
  have hsz := mul_bound (show l.length ≤ 1000 by omega) (show wd ≤ 20 by omega)
  have hszi : (l.length : Int) * wd ≤ 20000 := by rw [← Int.natCast_mul]; omega
  have hszj : 0 ≤ (l.length : Int) * wd := Int.mul_nonneg (by omega) (by omega)
  have hzl := zeroBs_length (l.length * wd)
  obtain ⟨Z, hZ⟩ : ∃ Z : Nat, Z = (l.length * wd + 7) / 8 := ⟨_, rfl⟩
  have hzl2 := Aside0.mk (hzl.trans hZ.symm)
  have hzz : ((Z : Int) == ((l.length : Int) * wd + 7) / 8) = true := by simp [hZ]
  have hzb : Z ≤ 2600 := by omega
  have HR := Aside0.mk hr
  have t1 : decide ((200 : Int) < (l.length : Int)) = false := by simp; omega
  have t2 : decide ((more : Int) < 0) = false := by simp
  have t3 : decide ((20 : Int) < (more : Int)) = false := by simp; omega
  have t4 : decide ((wd : Int) < 0) = false := by simp
  have t5 : decide ((20 : Int) < (wd : Int)) = false := by simp; omega
  have t6 : decide ((20 : Int) < (wd : Int) + more) = false := by simp; omega
  clear e1 hr hw hm hm2 hp hu hby hP hL hlen hwf hok hz hzl hZ hsz
  go_enter Try.func8, Try.ntmps8
  go_wp2_with (first
    | (go_at_call 18; (with_reducible refine C0.out.mono ?_); rintro e w2 ⟨rfl, hb⟩; have n1 := Aside0.mk (below_step HB.out hb); clear HB; have HB := n1; clear n1 hb)
    | (go_at_call 10; (with_reducible refine (C1.out _ HB.out).mono ?_); rintro e w3 ⟨v, rfl, hv, hb⟩; obtain ⟨A1, c1, e1⟩ := Kd.R_slice hv; subst e1; have n1 := Aside0.mk (below_step HB.out hb); clear HB; have HB := n1; clear n1; have C2 := Aside0.mk (unpack_any (b := P) rfl A1 c1 l.length ((wd : Int) + more) w3 (reads_n hv).2.2 (reads_n hv).2.1 HBY.out); clear hv hb)
    | (go_at_call 14; (with_reducible refine C2.out.mono ?_); rintro e w5 ⟨v, rfl, hv, hb⟩; rw [HU.out] at hv ⊢; obtain ⟨A2, c2, e2⟩ := Kd.R_slice hv; subst e2; have n1 := Aside0.mk (below_step HB.out hb); clear HB; have HB := n1; clear n1; have H2 := Aside0.mk hv; have HB5 := Aside0.mk (Below.refl w5.heap.size w5); clear hv hb)
    | (at_make; refine Kd.R_make (Kd.int .i64) (w0 := w5) w5.heap.size 3 rfl (N := 66) rfl 26 _ _ rfl _ rfl rfl Try.underlying26 (.int .i64 0) 8 info_int rfl (by decide) (by omega) 0 (ok := fun _ => True) (okp := fun _ => True) rfl (fun _ hk => hk) trivial ?c1 ?c2 (Below.refl _ _) (Nat.le_refl _) ?_; (case c1 => omega); (case c2 => omega); intro v1 w6 ho hb hg_ hnew_; rw [Int.toNat_natCast, ← HL.out] at ho; obtain ⟨A3, c3, e3⟩ := Kd.R_slice ho; rw [HLEN.out] at e3; subst e3; have n1 := Aside0.mk (below_step HB.out hb); have n2 := Aside0.mk (Kd.R_below H2.out hb); clear HB H2; have HB := n1; have H2 := n2; clear n1 n2; have C3 := Aside0.mk (pack_n (n := l.length) HLEN.out A3 c3 wd w6 (reads_n ho).2.2 (reads_n ho).2.1 (by omega) HWF.out); clear hg_ hnew_ ho hb)
    | (go_at_call 10; (with_reducible refine C3.out.mono ?_); rintro e w7 ⟨v, rfl, hv, hb⟩; rw [HZ.out] at hv ⊢; obtain ⟨A4, c4, e4⟩ := Kd.R_slice hv; replace e4 : v = .slice A4 (zeroBs (l.length * wd)).length c4 := e4; rw [hzl2.out] at e4; subst e4; have n1 := Aside0.mk (below_step HB.out hb); have n2 := Aside0.mk (Kd.R_below H2.out hb); clear HB H2; have HB := n1; have H2 := n2; clear n1 n2; have H4 := Aside0.mk hv; clear hv hb))
  go_loop [13] (fun x => ∃ i : Nat, x = .int .i64 i ∧ i ≤ Z) (fun x => Z - (intOf x).toNat)
  case atStart => exact ⟨0, rfl, by omega⟩
  case round =>
    obtain ⟨i, rfl, hi⟩ := hrel
    by_cases hlt : i < Z
    · obtain ⟨ad, e5, hx⟩ := at_arg (reads_n H4.out).2.2 i hlt
      rw [rd_zeroBs] at hx
      cases e5
      go_wp2
      go_round
      case rel => exact ⟨i + 1, by go_num, by omega⟩
      case measure => simp [intOf]; omega
    · have S3 := Aside0.mk (same_same (n := l.length) (a := l) rfl A2 A c2 c w7 (reads_n H2.out).2.2 (Kd.C_below HR.out HB.out) (by omega))
      go_wp2_with (first
        | (go_at_call 16; (with_reducible refine S3.out.mono ?_); rintro e w9 ⟨rfl, hb⟩; have n2 := Aside0.mk (below_step HB.out hb); clear HB hb; have HB := n2; clear n2)
        | (go_at_call 12; (with_reducible refine (known_any _).mono ?_); rintro e w11 ⟨rfl, hb⟩; have n2 := Aside0.mk (below_step HB.out hb); clear HB hb; have HB := n2; clear n2))
      go_ret
      exact ⟨rfl, HB.out⟩
theorem packWider_law (A : Option Addr) (c : Nat) (l : List Int) (wd more : Int) (w : World)
    (hr : Kd.C (Kd.int .i64) w A l.length l) (hc : l.length ≤ c) (hm : l.length ≤ maxLen) (hy : l.length * 8 ≤ 140737488351232) (hw : ∀ x ∈ l, (Lit.int .i64 x).wf = true) (hwd : (Lit.int .i64 wd).wf = true) (hmo : (Lit.int .i64 more).wf = true) :
    Calls Try.prog 8 #[.slice A l.length c, .int .i64 wd, .int .i64 more] w fun e w' => e = .returned (.bool true) ∧ Below w.heap.size w w' := by
  by_cases h : l.length ≤ 200 ∧ 0 ≤ more ∧ more ≤ 20 ∧ 0 ≤ wd ∧ wd ≤ 20
  · obtain ⟨h1, h2, h3, h4, h5⟩ := h
    by_cases h6 : ¬ May l wd ∨ (May l wd ∧ 20 < wd + more)
    · exact wider_may A c l wd more w hr hw h1 h2 h3 h4 h5 h6
    · have hm : May l wd := Classical.byContradiction fun hm => h6 (.inl hm)
      have hs : wd + more ≤ 20 := by
        apply Int.not_lt.1
        intro hlt
        exact h6 (.inr ⟨hm, hlt⟩)
      obtain ⟨v, rfl⟩ := Int.eq_ofNat_of_zero_le h4
      obtain ⟨m, rfl⟩ := Int.eq_ofNat_of_zero_le h2
      exact wider_in A c l v m w hr hc hw h1 hm (by omega)
  · exact wider_out A c l wd more w (by omega) (by omega)
end Go.Proofs.Ytejnmbgjledgeaa.Lb
