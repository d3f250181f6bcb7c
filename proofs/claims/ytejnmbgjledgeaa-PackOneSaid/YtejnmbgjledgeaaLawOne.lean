/- The law PackOne, walked. -/
import Derived.Test.YtejnmbgjledgeaaLawTells
set_option linter.unusedSimpArgs false
set_option linter.unusedVariables false
namespace Go.Proofs.Ytejnmbgjledgeaa.Lb
open Go.RowKit Go.Proofs.YtejnmbgjledgeaaW.PrintWords Go.Proofs.YtejnmbgjledgeaaW.PrintLast Go.Proofs.YtejnmbgjledgeaaW.PrintMore Go.Proofs.Ytejnmbgjledgeaa.Bs Go.Proofs.Ytejnmbgjledgeaa.PM Go.Proofs.Ytejnmbgjledgeaa.Pk Go.Proofs.Ytejnmbgjledgeaa.Rb
attribute [local go_sem] max2_int min2_int max_two min_two

section
variable {l b : List Int} {wd k : Nat}
theorem one_beyond (hm : May l wd) (hb : Bytes b) (hl : b.length = (l.length * wd + 7) / 8) (hx : ∀ q, bitAt b q = (bitAt (packed l wd) q ^^ decide (q = k))) (hk : l.length * wd ≤ k) (hk2 : k < 8 * b.length) : unpackR b l.length wd = ([], 2) := by
  obtain ⟨h1, h2, h3, h4⟩ := hm
  have hw : wd ≤ 20 := by omega
  have hne : ¬ packed (unpacked b l.length wd) wd = b := fun h => by
    have h5 := (packed_unpacked hw hb hl).1 h k hk hk2
    rw [hx, (packed_spec hw (by simpa using h4)).2] at h5
    have : ¬ k < l.length * wd := by omega
    simp [this] at h5
  rw [show unpackR b l.length wd = if packed (unpacked b l.length wd) wd = b then (unpacked b l.length wd, 0) else ([], 2) from unpackR_in (by omega) hw hl, if_neg hne]
theorem one_within (hm : May l wd) (hb : Bytes b) (hl : b.length = (l.length * wd + 7) / 8) (hx : ∀ q, bitAt b q = (bitAt (packed l wd) q ^^ decide (q = k))) (hk : k < l.length * wd) : unpackR b l.length wd = (unpacked b l.length wd, 0) ∧ ∀ i : Nat, i < l.length → rd (unpacked b l.length wd) i = if i = k / wd then (((rd l i).toNat ^^^ 2 ^ (k % wd) : Nat) : Int) else rd l i := by
  obtain ⟨h1, h2, h3, h4⟩ := hm
  have hw : wd ≤ 20 := by omega
  have hok : AllOk l wd := by simpa using h4
  have hw0 : 0 < wd := by
    rcases Nat.eq_zero_or_pos wd with h | h
    · subst h; omega
    · exact h
  have hne : packed (unpacked b l.length wd) wd = b := by
    apply (packed_unpacked hw hb hl).2
    intro q hq _
    rw [hx, (packed_spec hw hok).2]
    have c1 : ¬ q < l.length * wd := by omega
    have c2 : ¬ q = k := by omega
    simp [c1, c2]
  refine ⟨by rw [show unpackR b l.length wd = if packed (unpacked b l.length wd) wd = b then (unpacked b l.length wd, 0) else ([], 2) from unpackR_in (by omega) hw hl, if_pos hne], fun i hi => ?_⟩
  rw [rd_unpacked _ _ _ _ hi]
  obtain ⟨x0, x1⟩ := hok i hi
  obtain ⟨x, hxx⟩ := Int.eq_ofNat_of_zero_le x0
  rw [hxx] at x1 ⊢
  have x2 : x < 2 ^ wd := by exact_mod_cast x1
  have place : ∀ t, t < wd → bitAt (packed l wd) (i * wd + t) = x.testBit t := by
    intro t ht
    rw [(packed_spec hw hok).2]
    have hm' : (i + 1) * wd ≤ l.length * wd := Nat.mul_le_mul_right _ hi
    rw [Nat.add_mul] at hm'
    have e1 : (i * wd + t) / wd = i := by
      rw [Nat.add_comm, Nat.add_mul_div_right _ _ hw0, Nat.div_eq_of_lt ht]; omega
    have e2 : (i * wd + t) % wd = t := by
      rw [Nat.add_comm, Nat.add_mul_mod_self_right, Nat.mod_eq_of_lt ht]
    rw [e1, e2, hxx, Int.toNat_natCast]
    have : i * wd + t < l.length * wd := by omega
    simp [this]
  have kd := Nat.div_add_mod k wd
  have km := Nat.mod_lt k hw0
  have main : at_ b wd i = if i = k / wd then x ^^^ 2 ^ (k % wd) else x := by
    unfold at_
    apply Nat.eq_of_testBit_eq
    intro s
    rw [bitsVal_bit]
    by_cases hs : s < wd
    · rw [hx, place s hs]
      by_cases c : i = k / wd
      · rw [if_pos c, Nat.testBit_xor, Nat.testBit_two_pow]
        have : (i * wd + s = k) ↔ (k % wd = s) := by
          subst c
          rw [Nat.mul_comm] at kd
          omega
        simp [hs, this]
      · rw [if_neg c]
        have : ¬ (i * wd + s = k) := fun h => c (by
          rw [← h, Nat.add_comm, Nat.add_mul_div_right _ _ hw0, Nat.div_eq_of_lt hs]; omega)
        simp [hs, this]
    · have hp : 2 ^ wd ≤ 2 ^ s := Nat.pow_le_pow_right (by decide) (by omega)
      have a1 : x.testBit s = false := Nat.testBit_lt_two_pow (by omega)
      have a2 : ¬ k % wd = s := by omega
      split
      · rw [Nat.testBit_xor, Nat.testBit_two_pow]; simp [hs, a1, a2]
      · simp [hs, a1]
  rw [main]
  split <;> rfl
end
theorem one_out (A : Option Addr) (c : Nat) (l : List Int) (wd at' : Int) (w : World) (hr : Kd.C (Kd.int .i64) w A l.length l) (hl : l.length ≤ 9223372036854775807) (hw : ∀ x ∈ l, (Lit.int .i64 x).wf = true) (h : 200 < l.length ∨ (l.length ≤ 200 ∧ ¬ May l wd) ∨ (l.length ≤ 200 ∧ May l wd ∧ ((l.length : Int) * wd = 0))) :
    Calls Try.prog 7 #[.slice A l.length c, .int .i64 wd, .int .i64 at'] w fun e w' => e = .returned (.bool true) ∧ Below w.heap.size w w' := by
  have C1 := refMay (n := l.length) rfl A c wd w hr hl (rows_i64 hw)
  rcases h with h | ⟨h, h2⟩ | ⟨h, h2, h3⟩
  · clear C1 hr hw
    go_enter Try.func7, Try.ntmps7
    go_wp2
    go_ret
    exact ⟨rfl, Below.refl _ _⟩
  · rw [decide_eq_false h2] at C1
    have C2 := Aside0.mk C1
    clear C1 h2 hr hw
    go_enter Try.func7, Try.ntmps7
    go_wp2_with (first | (go_at_call 18; (with_reducible refine C2.out.mono ?_); rintro e w2 ⟨rfl, hb⟩; have HB := Aside0.mk hb; clear hb))
    go_ret
    exact ⟨rfl, HB.out⟩
  · rw [decide_eq_true h2] at C1
    have hwd := h2.1
    have hwd2 := h2.2.1
    have C2 := Aside0.mk C1
    have h4 : ((l.length : Int) * wd == 0) = true := by simpa using h3
    have hb1 : (l.length : Int) * wd ≤ 9223372036854775807 := by omega
    have hb2 : 0 ≤ (l.length : Int) * wd := by omega
    clear C1 h2 hr hw h3
    go_enter Try.func7, Try.ntmps7
    go_wp2_with (first | (go_at_call 18; (with_reducible refine C2.out.mono ?_); rintro e w2 ⟨rfl, hb⟩; have HB := Aside0.mk hb; clear hb))
    go_ret
    exact ⟨rfl, HB.out⟩
set_option maxHeartbeats 4000000 in
set_option maxRecDepth 100000 in
theorem one_in (A : Option Addr) (c : Nat) (l : List Int) (wd : Nat) (at' : Int) (w : World) (hr : Kd.C (Kd.int .i64) w A l.length l) (hc : l.length ≤ c) (hl : l.length ≤ 200) (hw : ∀ x ∈ l, (Lit.int .i64 x).wf = true) (hm : May l wd) (hz : 0 < l.length * wd) :
    Calls Try.prog 7 #[.slice A l.length c, .int .i64 wd, .int .i64 at'] w fun e w' => e = .returned (.bool true) ∧ Below w.heap.size w w' := by
  have hwd : wd ≤ 20 := by have := hm.2.1; omega
  have C0 := refMay (n := l.length) rfl A c wd w hr (by omega) (rows_i64 hw)
  rw [decide_eq_true hm] at C0
  have C0 := Aside0.mk C0
  have C1 := Aside0.mk (fun w1 hb => pack_any A c l wd w1 (Kd.C_below (w1 := w1) hr hb) hc (by omega) (rows_i64 hw))
  rw [packR_may hm] at C1
  have hby := may_bytes hm
  have hpl := packed_length l wd
  have hsz := mul_bound (show l.length ≤ 1000 by omega) hwd
  have hszi : (l.length : Int) * wd ≤ 20000 := by rw [← Int.natCast_mul]; omega
  have hszj : 0 < (l.length : Int) * wd := by rw [← Int.natCast_mul]; omega
  have t1 : ((l.length : Int) * wd == 0) = false := beq_eq_false_iff_ne.mpr (by omega)
  obtain ⟨P, hP⟩ : ∃ P, P = packed l wd := ⟨_, rfl⟩
  rw [← hP] at hby hpl C1
  have hp0 : 0 < P.length := by omega
  have hp1 : P.length ≤ 2600 := by omega
  have hpi : ((P.length : Int) != ((l.length : Int) * wd + 7) / 8) = false := by simp [hpl]
  obtain ⟨m, hmm, hm5⟩ := and_low at'
  obtain ⟨k, hk⟩ : ∃ k, k = m % (8 * P.length) := ⟨_, rfl⟩
  have hk8 : k < 8 * P.length := by rw [hk]; exact Nat.mod_lt _ (by omega)
  have hki : (m : Int) % (8 * (P.length : Int)) = k := by rw [hk]; simp
  have HK := Aside0.mk hk
  have HPL := Aside0.mk hpl
  have HP := Aside0.mk hP
  have HBY := Aside0.mk hby
  have HM := Aside0.mk hm
  have HR := Aside0.mk hr
  have HW := Aside0.mk hw
  have HB := Aside0.mk (Below.refl w.heap.size w)
  clear hP hr hw hm hby hpl hk hsz
  go_enter Try.func7, Try.ntmps7
  go_upto_region 7 with (first
    | (go_at_call 18; (with_reducible refine C0.out.mono ?_); rintro e w2 ⟨rfl, hb⟩; have n1 := Aside0.mk (below_step HB.out hb); clear HB; have HB := n1; clear n1 hb)
    | (go_at_call 10; (with_reducible refine (C1.out _ HB.out).mono ?_); rintro e w3 ⟨v, rfl, hv, hb⟩; obtain ⟨A1, c1, e1⟩ := Kd.R_slice hv; subst e1; have H1 := Aside0.mk (Kd.R_lower hv HB.out.size); have n1 := Aside0.mk (below_step HB.out hb); clear HB; have HB := n1; clear n1 hv hb))
  simp only [hki]
  clear hki hmm
  have hkp : k / 8 < P.length := by omega
  obtain ⟨g, cap, eg, hg1, hg2, cells, hcells⟩ := Kd.R_form H1.out (by omega)
  injection eg with f1 f2 f3
  subst f1
  obtain ⟨hxc, hfc⟩ := at_own H1.out _ hkp
  clear hcells f2 f3
  go_upto_region 8 with (fail)
  obtain ⟨x1, x2⟩ := xor_byte HBY.out k hkp
  have HP2 := put_own H1.out (k / 8) (Go.bits .xor .u8 (rd P ((k / 8 : Nat) : Int)) (2 ^ (k % 8) % 256))
  obtain ⟨Q, hQ⟩ : ∃ Q, Q = P.set (k / 8) (Go.bits .xor .u8 (rd P ((k / 8 : Nat) : Int)) (2 ^ (k % 8) % 256)) := ⟨_, rfl⟩
  have hql : Q.length = P.length := by rw [hQ]; simp
  rw [← hQ] at x1 x2 HP2
  have HB4 := Aside0.mk (HB.out.setCell (p := ⟨g, k / 8, none⟩) hg1 (.int .u8 (Go.bits .xor .u8 (rd P ((k / 8 : Nat) : Int)) (2 ^ (k % 8) % 256))))
  simp only [Int.natCast_ediv, Int.cast_ofNat_Int] at HP2 HB4
  generalize w3.setCell ⟨g, k / 8, none⟩ (.int .u8 (Go.bits .xor .u8 (rd P ((k : Int) / 8)) (2 ^ (k % 8) % 256))) = w4 at HP2 HB4 ⊢
  have HP3 := Aside0.mk HP2
  rw [HP.out] at x2
  have hql2 : Q.length = (l.length * wd + 7) / 8 := by rw [hql]; exact HPL.out
  have hp5 := Aside0.mk (reads_n H1.out).2.1
  have C2 := Aside0.mk (unpack_any (m := P.length) (b := Q) hql (some ⟨g, 0, none⟩) c1 l.length wd w4 (reads_n HP2).2.2 hp5.out x1)
  have X1 := Aside0.mk x1
  have X2 := Aside0.mk x2
  have QL := Aside0.mk hql2
  have HQL := Aside0.mk hql
  clear HB H1 HP2 x1 x2 hql hql2 hQ hxc hfc
  by_cases hbe : l.length * wd ≤ k
  · have HU := Aside0.mk (one_beyond HM.out X1.out QL.out X2.out hbe (by rw [HQL.out]; exact hk8))
    have hbi : (l.length : Int) * wd ≤ k := by rw [← Int.natCast_mul]; omega
    go_wp2_with (first
      | (go_at_call 14; (with_reducible refine C2.out.mono ?_); rintro e w5 ⟨v, rfl, hv, hb⟩; rw [HU.out] at hv ⊢; obtain ⟨A2, c2, e2⟩ := Kd.R_slice hv; replace e2 : v = .slice A2 0 c2 := e2; subst e2; have HB := Aside0.mk (below_step HB4.out hb); clear hv hb)
      | (go_at_call 12; (with_reducible refine (known_any _).mono ?_); rintro e w11 ⟨rfl, hb⟩; have n2 := Aside0.mk (below_step HB.out hb); clear HB hb; have HB := n2; clear n2))
    go_ret
    exact ⟨rfl, HB.out⟩
  · have hwi : k < l.length * wd := by omega
    have hwii : (k : Int) < (l.length : Int) * wd := by rw [← Int.natCast_mul]; omega
    obtain ⟨hu1, hu2⟩ := one_within HM.out X1.out QL.out X2.out hwi
    have HU := Aside0.mk hu1
    have HU2 := Aside0.mk hu2
    have HUL := Aside0.mk (unpacked_length Q l.length wd)
    have hw0 : 0 < wd := by
      rcases Nat.eq_zero_or_pos wd with h | h
      · subst h; omega
      · exact h
    clear hu1 hu2 hbe hwi
    go_upto_region 14 with (first
      | (go_at_call 14; (with_reducible refine C2.out.mono ?_); rintro e w5 ⟨v, rfl, hv, hb⟩; rw [HU.out] at hv ⊢; obtain ⟨A2, c2, e2⟩ := Kd.R_slice hv; rw [HUL.out] at e2; subst e2; have HB := Aside0.mk (below_step HB4.out hb); have H2 := Aside0.mk hv; clear hv hb))
    go_loop [12] (fun x => ∃ i : Nat, x = .int .i64 i ∧ i ≤ l.length) (fun x => l.length - (intOf x).toNat)
    case atStart => exact ⟨0, rfl, by omega⟩
    case round =>
      obtain ⟨i, rfl, hi⟩ := hrel
      by_cases hlt : i < l.length
      · have hU2 := HU2.out i hlt
        obtain ⟨ad, e1, hx⟩ := at_later HR.out HB.out i hlt
        obtain ⟨bd, e2, hy⟩ := at_arg (reads_n H2.out).2.2 i hlt
        cases e1
        cases e2
        obtain ⟨hv0, hv1⟩ := HM.out.2.2.2 i hlt
        simp only [Int.toNat_natCast] at hv1
        by_cases hik : i = k / wd
        · have hq : ((i : Int) == wrap64 ((k : Int) / wd)) = true := by
            rw [← Int.natCast_ediv, wrap64_nat (by have := Nat.div_le_self k wd; omega), hik]; simp
          have hX : Go.bits .xor .i64 (rd l i) (wrap64 (2 ^ min (IntKind.u64.wrap ((k : Int) % wd)).toNat 64)) = (((rd l i).toNat ^^^ 2 ^ (k % wd) : Nat) : Int) := by
            have hmod := Nat.mod_lt k hw0
            have e3 : IntKind.u64.wrap ((k : Int) % wd) = ((k % wd : Nat) : Int) := by
              rw [← Int.natCast_emod]
              simp [IntKind.wrap, IntKind.bits, IntKind.signed]
              omega
            rw [e3, Int.toNat_natCast, Nat.min_eq_left (by omega)]
            obtain ⟨x, hxx⟩ := Int.eq_ofNat_of_zero_le hv0
            rw [hxx] at hv1 ⊢
            rw [Int.toNat_natCast]
            have hx62 : x < 2 ^ 62 := by
              have h1 : x < 2 ^ wd := by exact_mod_cast hv1
              exact Nat.lt_of_lt_of_le h1 (Nat.pow_le_pow_right (by decide) (by omega))
            exact xor_num x (k % wd) hx62 (by omega)
          rw [if_pos hik] at hU2
          rw [hU2] at hy
          have HIK := Aside0.mk hik
          have hvi : Aside0 (rd l (i : Int) < 2 ^ wd) := ⟨hv1⟩
          clear hU2 hik hv1
          go_wp2
          go_round
          case rel => exact ⟨i + 1, by go_num, by omega⟩
          case measure => simp [intOf]; omega
        · have hq : ((i : Int) == wrap64 ((k : Int) / wd)) = false := by
            apply beq_eq_false_iff_ne.mpr
            intro h
            apply hik
            rw [← Int.natCast_ediv, wrap64_nat (by have := Nat.div_le_self k wd; omega)] at h
            omega
          rw [if_neg hik] at hU2
          rw [hU2] at hy
          have hvi : Aside0 (rd l (i : Int) < 2 ^ wd) := ⟨hv1⟩
          clear hU2 hik hv1
          go_wp2
          go_round
          case rel => exact ⟨i + 1, by go_num, by omega⟩
          case measure => simp [intOf]; omega
      · go_wp2_with (first
          | (go_at_call 12; (with_reducible refine (known_any _).mono ?_); rintro e w11 ⟨rfl, hb⟩; have n2 := Aside0.mk (below_step HB.out hb); clear HB hb; have HB := n2; clear n2))
        go_ret
        exact ⟨rfl, HB.out⟩
theorem packOne_law (A : Option Addr) (c : Nat) (l : List Int) (wd at' : Int) (w : World)
    (hr : Kd.C (Kd.int .i64) w A l.length l) (hc : l.length ≤ c) (hm : l.length ≤ maxLen) (hy : l.length * 8 ≤ 140737488351232) (hw : ∀ x ∈ l, (Lit.int .i64 x).wf = true) (hwd : (Lit.int .i64 wd).wf = true) (hat : (Lit.int .i64 at').wf = true) :
    Calls Try.prog 7 #[.slice A l.length c, .int .i64 wd, .int .i64 at'] w fun e w' => e = .returned (.bool true) ∧ Below w.heap.size w w' := by
  by_cases h : 200 < l.length ∨ (l.length ≤ 200 ∧ ¬ May l wd) ∨ (l.length ≤ 200 ∧ May l wd ∧ ((l.length : Int) * wd = 0))
  · exact one_out A c l wd at' w hr (by omega) hw h
  · have h1 : l.length ≤ 200 := Nat.not_lt.1 (fun h1 => h (.inl h1))
    have hm : May l wd := Classical.byContradiction fun hm => h (.inr (.inl ⟨h1, hm⟩))
    have hz : ¬ (l.length : Int) * wd = 0 := fun hz => h (.inr (.inr ⟨h1, hm, hz⟩))
    obtain ⟨v, rfl⟩ := Int.eq_ofNat_of_zero_le hm.1
    rw [← Int.natCast_mul] at hz
    exact one_in A c l v at' w hr hc h1 hw hm (by omega)
end Go.Proofs.Ytejnmbgjledgeaa.Lb
