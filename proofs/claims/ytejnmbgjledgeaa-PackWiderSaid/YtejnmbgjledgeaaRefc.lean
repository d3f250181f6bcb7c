/- The walk of triviumref2.Unpack. -/
import Derived.Test.YtejnmbgjledgeaaRefb
set_option linter.unusedSimpArgs false
set_option linter.unusedVariables false
namespace Go.Proofs.Ytejnmbgjledgeaa.Rb
open Go.RowKit Go.Proofs.YtejnmbgjledgeaaW.PrintWords Go.Proofs.YtejnmbgjledgeaaW.PrintLast Go.Proofs.YtejnmbgjledgeaaW.PrintMore Go.Proofs.Ytejnmbgjledgeaa.Bs Go.Proofs.Ytejnmbgjledgeaa.PM Go.Proofs.Ytejnmbgjledgeaa.Pk
attribute [local go_sem] max2_int min2_int max_two min_two

theorem unpacked_succ (b : List Int) (i wd : Nat) : unpacked b (i + 1) wd = unpacked b i wd ++ [(at_ b wd i : Int)] := by
  simp [unpacked, List.range_succ]
/-- The highest j bits of number i. -/
def hi (b : List Int) (wd i j : Nat) : Nat := bitsVal (fun t => bitAt b (i * wd + (t + (wd - j)))) j
theorem hi_all (b : List Int) (wd i : Nat) : hi b wd i wd = at_ b wd i := by
  unfold hi at_
  apply bitsVal_congr
  intro t ht
  rw [Nat.sub_self]; rfl
theorem hi_step (b : List Int) (wd i j : Nat) (hj : j < wd) : hi b wd i (j + 1) = 2 * hi b wd i j + (if bitAt b (i * wd + (wd - 1 - j)) then 1 else 0) := by
  unfold hi
  rw [bitsVal_low]
  congr 1
  · congr 1
    apply bitsVal_congr
    intro t ht
    rw [show t + 1 + (wd - (j + 1)) = t + (wd - j) by omega]
  · rw [show 0 + (wd - (j + 1)) = wd - 1 - j by omega]
theorem hi_lt (b : List Int) (wd i j : Nat) : hi b wd i j < 2 ^ j := bitsVal_lt _ _
set_option maxHeartbeats 1000000 in
theorem refUnpack_in (A : Option Addr) (c : Nat) (b : List Int) (n wd : Nat) (w : World) (hr : Kd.C (Kd.int .u8) w A b.length b) (hc : b.length ≤ c) (hn : n ≤ 1000) (hw : wd ≤ 20) (hb : Bytes b) (hl : b.length = (n * wd + 7) / 8) :
    Calls Try.prog 15 #[.slice A b.length c, .int .i64 n, .int .i64 wd] w fun e w' => ∃ v, e = .returned (.tuple #[v, .int .i64 (unpackR b n wd).2]) ∧ Kd.R (Kd.int .i64) 3 w' w.heap.size (fun _ => True) v (unpackR b n wd).1 ∧ Below w.heap.size w w' := by
  have HR := Aside0.mk hr
  have HBY := Aside0.mk hb
  have hsz := mul_bound hn hw
  have hszi : (n : Int) * wd ≤ 20000 := by rw [← Int.natCast_mul]; omega
  have hszj : 0 ≤ (n : Int) * wd := Int.mul_nonneg (by omega) (by omega)
  have hlq : (b.length : Int) = ((n : Int) * wd + 7) / 8 := by rw [← Int.natCast_mul]; omega
  have hlen : ((b.length : Int) != ((n : Int) * wd + 7) / 8) = false := by rw [hlq]; simp
  have HL := Aside0.mk hl
  have HUR := Aside0.mk (unpackR_in hn hw hl)
  clear hr hb hl hlq hsz
  go_enter Try.func15, Try.ntmps15
  go_wp2
  go_loopw [8, 9] (fun v x wr => ∃ i : Nat, x = .int .i64 i ∧ i ≤ n ∧ Aside0 (Kd.R (Kd.int .i64) 3 wr w.heap.size (fun _ => True) v (unpacked b i wd)) ∧ Aside0 (Below w.heap.size w wr)) (fun _ x _ => n - (intOf x).toNat)
  case atStart => exact ⟨0, rfl, by omega, ⟨Kd.R_nil _ _ _ _ _⟩, ⟨Below.refl _ _⟩⟩
  case round =>
    obtain ⟨i, rfl, hi_, HO, HB⟩ := hrel
    by_cases hlt : i < n
    · go_wp2
      go_loopw [10, 11] (fun x y wx => ∃ j : Nat, x = .int .i64 (hi b wd i j) ∧ y = .int .i64 ((wd : Int) - 1 - j) ∧ j ≤ wd ∧ wx = wr) (fun _ y _ => (intOf y + 1).toNat)
      case atStart => exact ⟨0, by simp [hi, bitsVal], by simp, by omega, rfl⟩
      case round =>
        obtain ⟨j, rfl, rfl, hj, rfl⟩ := hrel
        by_cases hjlt : j < wd
        · have hp := place_lt hlt (show wd - 1 - j < wd by omega)
          have hpi : (i : Int) * wd + ((wd : Int) - 1 - j) ≤ 20000 := by have := mul_bound hn hw; rw [← Int.natCast_mul]; omega
          have hpj : 0 ≤ (i : Int) * wd := Int.mul_nonneg (by omega) (by omega)
          have hpk : (i * wd + (wd - 1 - j)) / 8 < b.length := by have := HL.out; omega
          obtain ⟨ad, e1, hx⟩ := at_later HR.out HB.out _ hpk
          cases e1
          obtain ⟨k, hk⟩ : ∃ k : Nat, k = wd - 1 - j := ⟨_, rfl⟩
          have hk2 : (wd : Int) - 1 - j = k := by omega
          rw [← hk] at hp hx hpk
          rw [hk2] at hpi ⊢
          have hpk2 : ((i : Int) * wd + k) / 8 < b.length := by have := HL.out; rw [← Int.natCast_mul]; omega
          obtain ⟨hv0, hv1⟩ := HBY.out.rd_ ((i * wd + k) / 8 : Nat)
          have hh : Aside0 (hi b wd i j < 2 ^ j) := ⟨hi_lt b wd i j⟩
          have hh2 : hi b wd i j ≤ 1048576 := by
            have := Nat.pow_le_pow_right (n := 2) (by decide) (show j ≤ 20 by omega)
            have := hh.out; omega
          have HK := Aside0.mk hk
          have HK2 := Aside0.mk hk2
          clear hk hk2 hp
          go_wp2
          have e2 := low_bit HBY.out (i * wd + k) (hi b wd i j) (by omega)
          simp only [Int.natCast_ediv, Int.natCast_add, Int.natCast_mul, Int.cast_ofNat_Int] at e2
          have e3 := hi_step b wd i j hjlt
          rw [← HK.out] at e3
          refine ⟨⟨j + 1, ?_, ?_, by omega, trivial⟩, by simp [intOf]⟩
          · rw [e2, e3]; rfl
          · have := HK2.out; congr 1; omega
        · have hj' : Aside0 (j = wd) := ⟨by omega⟩
          obtain ⟨x, hx⟩ : ∃ x, x = hi b wd i j := ⟨_, rfl⟩
          have HX := Aside0.mk hx
          rw [← hx]
          clear hx
          go_wp2_with (first | (at_builtin; refine Kd.R_append (Kd.int .i64) (w0 := w) w.heap.size rfl (.tmp 67) (.tmp 69) 26 3 (.int .i64 0) 8 rfl Try.underlying26 info_int rfl (by decide) (by omega) u8 (unpacked b i wd) (x : Int) [.int .i64 x] (fun _ => True) (fun _ => False) rfl rfl ?aP (fun _ hk => hk.elim) ?aF ?aO ?aB ?aS ?aL ?_; (case aP => exact rfl); (case aB => exact HB.out); (case aF => exact (fun _ _ => trivial)); (case aO => exact HO.out); (case aS => exact HB.out.size); (case aL => rw [unpacked_length]; omega); intro v150 w19 ho hb hg hat; have HO1 := Aside0.mk ho; have HB1 := Aside0.mk hb; clear ho hb hg hat))
          go_roundw
          case rel =>
            refine ⟨i + 1, by go_num, by omega, ?_, HB1⟩
            have h1 := HX.out
            rw [hj'.out, hi_all] at h1
            rw [unpacked_succ, ← h1]
            exact HO1
          case measure => simp [intOf]; omega
    · have : i = n := by omega
      subst this
      have hu := Aside0.mk (unpacked_ok b i wd)
      have hul := Aside0.mk (unpacked_length b i wd)
      have HP := Aside0.mk (packed_may hw (by rw [hul.out]; exact hn) hu.out)
      obtain ⟨A1, c1, ev⟩ := Kd.R_slice HO.out
      rw [hul.out] at ev
      subst ev
      have HWF : Aside0 (∀ k : Nat, -9223372036854775808 ≤ rd (unpacked b i wd) k ∧ rd (unpacked b i wd) k ≤ 9223372036854775807) := ⟨by
        intro k
        by_cases c : k < i
        · obtain ⟨x0, x1⟩ := hu.out k (by rw [hul.out]; exact c)
          have := (hu.out.lt63 hw k (by rw [hul.out]; exact c))
          omega
        · unfold rd
          rw [List.getD_eq_getElem?_getD, List.getElem?_eq_none (by simp [unpacked]; omega)]
          simp⟩
      have C2 := Aside0.mk (refPack hul.out A1 c1 wd wr (reads_n HO.out).2.2 (by omega) HWF.out)
      have HPB := Aside0.mk (packed_spec hw hu.out).1
      go_wp2_with (first | (go_at_call 13; (with_reducible refine C2.out.mono ?_); rintro e w' ⟨v, rfl, hv, hb⟩; rw [HP.out] at hv; obtain ⟨A2, c2, ev⟩ := Kd.R_slice hv; subst ev; have S1 := Kd.C_string Try.underlying22 Try.underlying5 Try.underlying9 (c := c2) (reads_n hv).2.2; have S2 := Kd.C_string Try.underlying22 Try.underlying5 Try.underlying9 (c := c) (Kd.C_below HR.out (HB.out.trans (hb.mono HB.out.size))); have HB2 := Aside0.mk (HB.out.trans (hb.mono HB.out.size)); have HO2 := Aside0.mk (Kd.R_below HO.out hb); clear hv hb HB HO))
      all_goals go_ret2
      · have hne : (!(strOfNums (packed (unpacked b i wd) wd)).toList == (strOfNums b).toList) = true := by assumption
        rw [str_eq HPB.out HBY.out] at hne
        have hne2 : ¬ packed (unpacked b i wd) wd = b := by simpa using hne
        rw [HUR.out, if_neg hne2]
        exact ⟨_, rfl, Kd.R_nil _ _ _ _ _, HB2.out⟩
      · have hne : (!(strOfNums (packed (unpacked b i wd) wd)).toList == (strOfNums b).toList) = false := by assumption
        rw [str_eq HPB.out HBY.out] at hne
        have hne2 : packed (unpacked b i wd) wd = b := by simpa using hne
        rw [HUR.out, if_pos hne2]
        exact ⟨_, rfl, HO2.out, HB2.out⟩
theorem refUnpack_out (A : Option Addr) (c m : Nat) (n wd : Int) (w : World) (h : ¬ (0 ≤ wd ∧ wd ≤ 20 ∧ 0 ≤ n ∧ n ≤ 1000)) :
    Calls Try.prog 15 #[.slice A m c, .int .i64 n, .int .i64 wd] w fun e w' => e = .returned (.tuple #[.slice none 0 0, .int .i64 1]) ∧ w = w' := by
  by_cases h1 : wd < 0
  · clear h
    go_enter Try.func15, Try.ntmps15
    go_wp2
    go_ret2
    exact ⟨rfl, rfl⟩
  · by_cases h2 : 20 < wd
    · clear h
      go_enter Try.func15, Try.ntmps15
      go_wp2
      go_ret2
      exact ⟨rfl, rfl⟩
    · by_cases h3 : n < 0
      · clear h
        go_enter Try.func15, Try.ntmps15
        go_wp2
        go_ret2
        exact ⟨rfl, rfl⟩
      · have h4 : 1000 < n := by
          apply Int.not_le.1
          intro h4
          exact h ⟨by omega, by omega, by omega, h4⟩
        clear h
        go_enter Try.func15, Try.ntmps15
        go_wp2
        go_ret2
        exact ⟨rfl, rfl⟩
theorem refUnpack_len (A : Option Addr) (c m n wd : Nat) (w : World) (hn : n ≤ 1000) (hw : wd ≤ 20) (h : ¬ m = (n * wd + 7) / 8) :
    Calls Try.prog 15 #[.slice A m c, .int .i64 n, .int .i64 wd] w fun e w' => e = .returned (.tuple #[.slice none 0 0, .int .i64 2]) ∧ w = w' := by
  have hsz := mul_bound hn hw
  have hszi : (n : Int) * wd ≤ 20000 := by rw [← Int.natCast_mul]; omega
  have hszj : 0 ≤ (n : Int) * wd := Int.mul_nonneg (by omega) (by omega)
  have hlq : ¬ (m : Int) = ((n : Int) * wd + 7) / 8 := by rw [← Int.natCast_mul]; omega
  have hlen : ((m : Int) != ((n : Int) * wd + 7) / 8) = true := by simpa using hlq
  clear h hlq hsz
  go_enter Try.func15, Try.ntmps15
  go_wp2
  go_ret2
  exact ⟨rfl, rfl⟩
/-- The reference's Unpack, called with whatever. -/
theorem refUnpack {m : Nat} {b : List Int} (hm : b.length = m) (A : Option Addr) (c : Nat) (n wd : Int) (w : World) (hr : Kd.C (Kd.int .u8) w A m b) (hc : m ≤ c) (hb : Bytes b) :
    Calls Try.prog 15 #[.slice A m c, .int .i64 n, .int .i64 wd] w fun e w' => ∃ v, e = .returned (.tuple #[v, .int .i64 (unpackR b n wd).2]) ∧ Kd.R (Kd.int .i64) 3 w' w.heap.size (fun _ => True) v (unpackR b n wd).1 ∧ Below w.heap.size w w' := by
  subst hm
  by_cases h : 0 ≤ wd ∧ wd ≤ 20 ∧ 0 ≤ n ∧ n ≤ 1000
  · obtain ⟨k, rfl⟩ := Int.eq_ofNat_of_zero_le h.1
    obtain ⟨m, rfl⟩ := Int.eq_ofNat_of_zero_le h.2.2.1
    by_cases hl : b.length = (m * k + 7) / 8
    · exact refUnpack_in A c b m k w hr hc (by omega) (by omega) hb hl
    · refine (refUnpack_len A c b.length m k w (by omega) (by omega) hl).mono ?_
      rintro e w' ⟨rfl, rfl⟩
      have : unpackR b m k = ([], 2) := by
        unfold unpackR
        rw [if_pos h, if_neg (by rw [← Int.natCast_mul]; omega)]
      rw [this]
      exact ⟨_, rfl, Kd.R_nil _ _ _ _ _, Below.refl _ _⟩
  · refine (refUnpack_out A c b.length n wd w h).mono ?_
    rintro e w' ⟨rfl, rfl⟩
    have : unpackR b n wd = ([], 1) := by
      unfold unpackR
      rw [if_neg h]
    rw [this]
    exact ⟨_, rfl, Kd.R_nil _ _ _ _ _, Below.refl _ _⟩
end Go.Proofs.Ytejnmbgjledgeaa.Rb
