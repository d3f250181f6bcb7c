/- The walk of pack.Unpack. -/
import Derived.Test.YtdijaobhijmknaaPack
set_option linter.unusedSimpArgs false
set_option linter.unusedVariables false
namespace Go.Proofs.Ytdijaobhijmknaa.Pk
open Go.RowKit Go.Proofs.YtdijaobhijmknaaW.PrintWords Go.Proofs.YtdijaobhijmknaaW.PrintLast Go.Proofs.YtdijaobhijmknaaW.PrintMore Go.Proofs.Ytdijaobhijmknaa.Bs Go.Proofs.Ytdijaobhijmknaa.PM
attribute [local go_sem] max2_int min2_int max_two min_two

/-- The row of numbers while number i is being read: j of its bits are there. -/
def rowAt (b : List Int) (n wd i j : Nat) : List Int := (List.range n).map fun k => if k < i then (at_ b wd k : Int) else if k = i then (bitsVal (fun t => bitAt b (i * wd + t)) j : Int) else 0
theorem rowAt_length (b : List Int) (n wd i j : Nat) : (rowAt b n wd i j).length = n := by simp [rowAt]
theorem rowAt_first (b : List Int) (n wd : Nat) : rowAt b n wd 0 0 = List.replicate n 0 := by
  apply list_rd_ext (by simp [rowAt])
  intro i hi
  rw [rowAt_length] at hi
  rw [rd_nat, rd_nat]
  simp [rowAt, hi, bitsVal]
theorem rowAt_next (b : List Int) (n wd i : Nat) : rowAt b n wd i wd = rowAt b n wd (i + 1) 0 := by
  apply list_rd_ext (by simp [rowAt])
  intro k hk
  rw [rowAt_length] at hk
  rw [rd_nat, rd_nat]
  simp only [rowAt, List.getD_eq_getElem?_getD, List.getElem?_map, List.getElem?_range hk, Option.map_some, Option.getD_some]
  by_cases c : k < i
  · have : k < i + 1 := by omega
    simp [c, this]
  · by_cases c2 : k = i
    · subst c2; simp [at_]
    · have h1 : ¬ k < i + 1 := by omega
      simp [c, c2, h1, bitsVal]
theorem rowAt_last (b : List Int) (n wd : Nat) : rowAt b n wd n 0 = unpacked b n wd := by
  apply list_rd_ext (by simp [rowAt, unpacked])
  intro k hk
  rw [rowAt_length] at hk
  rw [rd_unpacked _ _ _ _ hk, rd_nat]
  simp [rowAt, hk]
theorem rd_rowAt (b : List Int) (n wd i j : Nat) (h : i < n) : rd (rowAt b n wd i j) (i : Int) = bitsVal (fun t => bitAt b (i * wd + t)) j := by
  rw [rd_nat]
  simp [rowAt, h]
theorem rowAt_step (b : List Int) (n wd i j : Nat) (h : i < n) : (rowAt b n wd i j).set i (bitsVal (fun t => bitAt b (i * wd + t)) (j + 1) : Int) = rowAt b n wd i (j + 1) := by
  apply list_rd_ext (by simp [rowAt])
  intro k hk
  rw [List.length_set, rowAt_length] at hk
  rw [rd_nat, rd_nat]
  simp only [List.getD_eq_getElem?_getD, List.getElem?_set, rowAt_length]
  by_cases c : i = k
  · subst c
    simp [h, rowAt]
  · simp only [if_neg c]
    have c' : ¬ k = i := fun e => c e.symm
    simp [rowAt, hk, c']
theorem unpackR_in {b : List Int} {n wd : Nat} (hn : n ≤ 1000) (hw : wd ≤ 20) (hl : b.length = (n * wd + 7) / 8) : unpackR b n wd = if packed (unpacked b n wd) wd = b then (unpacked b n wd, 0) else ([], 2) := by
  unfold unpackR
  rw [if_pos (by omega), if_pos (by rw [← Int.natCast_mul]; omega)]
  rfl
set_option maxHeartbeats 1000000 in
theorem unpack_in (A : Option Addr) (c : Nat) (b : List Int) (n wd : Nat) (w : World) (hr : Kd.C (Kd.int .u8) w A b.length b) (hc : b.length ≤ c) (hn : n ≤ 1000) (hw : wd ≤ 20) (hb : Bytes b) (hl : b.length = (n * wd + 7) / 8) :
    Calls Try.prog 30 #[.slice A b.length c, .int .i64 n, .int .i64 wd] w fun e w' => ∃ v, e = .returned (.tuple #[v, .int .i64 (unpackR b n wd).2]) ∧ Kd.R (Kd.int .i64) 3 w' w.heap.size (fun _ => True) v (unpackR b n wd).1 ∧ Below w.heap.size w w' := by
  have HR := Aside0.mk hr
  have HBY := Aside0.mk hb
  have hsz := mul_bound hn hw
  have hszi : (n : Int) * wd ≤ 20000 := by rw [← Int.natCast_mul]; omega
  have hszj : 0 ≤ (n : Int) * wd := Int.mul_nonneg (by omega) (by omega)
  have hlq : (b.length : Int) = ((n : Int) * wd + 8 - 1) / 8 := by rw [← Int.natCast_mul]; omega
  have hlen : ((b.length : Int) != ((n : Int) * wd + 8 - 1) / 8) = false := by rw [hlq]; simp
  have HS : Aside0 ((List.replicate n 0 : List Int) = rowAt b n wd 0 0) := ⟨(rowAt_first b n wd).symm⟩
  have HL := Aside0.mk hl
  have HLQ2 := Aside0.mk hl
  have HLQ := Aside0.mk hlq
  clear hr hb hl hlq
  go_enter Try.func30, Try.ntmps30
  go_wp2_with (first | (go_at_call 60; refine (fits_yes _ _ _ (by omega) (by omega) (by omega) (by omega)).mono ?_; rintro e w' ⟨rfl, rfl⟩) | (go_at_call 61; refine (size_any _ _ (by omega) (by omega)).mono ?_; rintro e w' ⟨rfl, rfl⟩) | (at_make; refine Kd.R_make (Kd.int .i64) _ 3 rfl (N := 26) rfl 26 _ _ rfl _ rfl rfl Try.underlying26 (.int .i64 0) 8 info_int rfl (by decide) (by omega) 0 (ok := fun _ => True) (okp := fun _ => True) rfl (fun _ hk => hk) trivial ?c1 ?c2 (Below.refl _ _) (Nat.le_refl _) ?_; (case c1 => omega); (case c2 => omega); intro v106 w8 ho9 hb hg_ hnew_; rw [Int.toNat_natCast, HS.out] at ho9; obtain ⟨A1, c1, e1⟩ := Kd.R_slice ho9; rw [rowAt_length] at e1; subst e1; have HO := Aside0.mk ho9; have HB := Aside0.mk hb; clear hg_ hnew_ ho9 hb))
  go_loopw [29] (fun x wr => ∃ i : Nat, x = .int .i64 i ∧ i ≤ n ∧ Aside0 (Kd.R (Kd.int .i64) 3 wr w.heap.size (fun _ => True) (.slice A1 n c1) (rowAt b n wd i 0)) ∧ Aside0 (Below w.heap.size w wr)) (fun x _ => n - (intOf x).toNat)
  case atStart => exact ⟨0, rfl, by omega, HO, HB⟩
  case round =>
    clear HO HB
    obtain ⟨i, rfl, hi, HO, HB⟩ := hrel
    by_cases hlt : i < n
    · go_wp2
      go_loopw [33] (fun x wx => ∃ j : Nat, x = .int .i64 j ∧ j ≤ wd ∧ Aside0 (Kd.R (Kd.int .i64) 3 wx w.heap.size (fun _ => True) (.slice A1 n c1) (rowAt b n wd i j)) ∧ Aside0 (Below w.heap.size w wx)) (fun x _ => wd - (intOf x).toNat)
      case atStart => exact ⟨0, rfl, by omega, HO, HB⟩
      case round =>
        clear HO HB
        obtain ⟨j, rfl, hj, HO, HB⟩ := hrel
        by_cases hjlt : j < wd
        · have hp := place_lt hlt hjlt
          have hpi : (i : Int) * wd + j ≤ 20000 := by rw [← Int.natCast_mul]; omega
          have hpj : 0 ≤ (i : Int) * wd := Int.mul_nonneg (by omega) (by omega)
          obtain ⟨L, hL⟩ : ∃ L, L = b.length := ⟨_, rfl⟩
          have hpk : (i * wd + j) / 8 < b.length := by have := HL.out; omega
          have hpk2 : ((i : Int) * wd + j) / 8 < b.length := by have := HL.out; rw [← Int.natCast_mul]; omega
          obtain ⟨g, cap, eg, hg1, hg2, cells, hcells⟩ := Kd.R_form HO.out (by rw [rowAt_length]; omega)
          injection eg with f1 f2 f3
          subst f1
          obtain ⟨hxc, hfc⟩ := at_own HO.out i (by omega)
          obtain ⟨ad, e1, hx⟩ := at_later HR.out HB.out _ hpk
          cases e1
          obtain ⟨hv0, hv1⟩ := HBY.out.rd_ ((i * wd + j) / 8 : Nat)
          clear hcells hp f2 f3 hL
          go_wp2
          go_region
          go_wp2
          go_roundw
          case rel =>
            refine ⟨j + 1, by go_num, by omega, ⟨?_⟩, ⟨below_put HB.out hg1⟩⟩
            have := put_own HO.out i (Go.bits .or .i64 (rd (rowAt b n wd i j) (i : Int)) (wrap64 (wrap64 (Go.bits .and .u8 (rd b (((i * wd + j) / 8 : Nat) : Int) / 2 ^ ((i * wd + j) % 8)) 1) * 2 ^ j)))
            rw [rd_rowAt _ _ _ _ _ hlt, or_bit HBY.out _ _ _ (by omega) (bitsVal_lt _ _)] at this
            have e := rowAt_step b n wd i j hlt
            rw [bitsVal] at e
            rw [e] at this
            rw [rd_rowAt _ _ _ _ _ hlt]
            have e2 := or_bit HBY.out (i * wd + j) (bitsVal (fun t => bitAt b (i * wd + t)) j) j (by omega) (bitsVal_lt _ _)
            simp only [Int.natCast_ediv, Int.natCast_add, Int.natCast_mul, Int.cast_ofNat_Int] at e2
            rw [e2]
            exact Kd.R_drew this
          case measure => simp [intOf]; omega
        · have hj' : j = wd := by omega
          go_wp2
          go_roundw
          case rel => exact ⟨i + 1, by go_num, by omega, by subst hj'; rw [← rowAt_next]; exact HO, HB⟩
          case measure => simp [intOf]; omega
    · have : i = n := by omega
      subst this
      rw [rowAt_last] at HO
      have hu := Aside0.mk (unpacked_ok b i wd)
      have hul := Aside0.mk (unpacked_length b i wd)
      have HP := Aside0.mk (packed_may hw (by rw [hul.out]; exact hn) hu.out)
      have HC := Aside0.mk (reads_n HO.out).2.2
      have hnc := (reads_n HO.out).2.1
      have HWF : Aside0 (∀ k : Nat, -9223372036854775808 ≤ rd (unpacked b i wd) k ∧ rd (unpacked b i wd) k ≤ 9223372036854775807) := ⟨by
        intro k
        by_cases c : k < i
        · obtain ⟨x0, x1⟩ := hu.out k (by rw [hul.out]; exact c)
          have := (hu.out.lt63 hw k (by rw [hul.out]; exact c))
          omega
        · unfold rd
          rw [List.getD_eq_getElem?_getD, List.getElem?_eq_none (by simp [unpacked]; omega)]
          simp⟩
      have C1 := pack_n (n := i) hul.out A1 c1 wd wr HC.out hnc (by omega) HWF.out
      have C2 := Aside0.mk C1
      clear C1
      have HPB := Aside0.mk (packed_spec hw hu.out).1
      have HUR := Aside0.mk (unpackR_in hn hw HLQ2.out)
      go_wp2_with (first | (go_at_call 26; (with_reducible refine C2.out.mono ?_); rintro e w' ⟨v, rfl, hv, hb⟩; rw [HP.out] at hv; obtain ⟨A2, c2, ev⟩ := Kd.R_slice hv; subst ev; have C3 := same_bytes A2 A _ c2 _ c _ _ w' (reads_n hv).2.2 (Kd.C_below HR.out (HB.out.trans (hb.mono HB.out.size))) HPB.out HBY.out; have C4 := Aside0.mk C3; have HB2 := Aside0.mk (HB.out.trans (hb.mono HB.out.size)); have HO2 := Aside0.mk (Kd.R_below HO.out hb); clear hv hb C3 HB HO) | (go_at_call 63; (with_reducible refine C4.out.mono ?_); rintro e w' ⟨rfl, rfl⟩))
      all_goals go_ret2
      · have hne : (!decide (packed (unpacked b i wd) wd = b)) = true := by assumption
        have hne2 : ¬ packed (unpacked b i wd) wd = b := by simpa using hne
        rw [HUR.out, if_neg hne2]
        exact ⟨_, rfl, Kd.R_nil _ _ _ _ _, HB2.out⟩
      · have hne : (!decide (packed (unpacked b i wd) wd = b)) = false := by assumption
        have hne2 : packed (unpacked b i wd) wd = b := by simpa using hne
        rw [HUR.out, if_pos hne2]
        exact ⟨_, rfl, HO2.out, HB2.out⟩
theorem unpack_out (A : Option Addr) (c m : Nat) (n wd : Int) (w : World) (h : ¬ (0 ≤ wd ∧ wd ≤ 20 ∧ 0 ≤ n ∧ n ≤ 1000)) :
    Calls Try.prog 30 #[.slice A m c, .int .i64 n, .int .i64 wd] w fun e w' => e = .returned (.tuple #[.slice none 0 0, .int .i64 1]) ∧ w = w' := by
  have HN := Aside0.mk h
  clear h
  go_enter Try.func30, Try.ntmps30
  go_wp2_with (first | (go_at_call 60; refine (fits_no _ _ _ HN.out).mono ?_; rintro e w' ⟨rfl, rfl⟩))
  go_ret2
  exact ⟨rfl, rfl⟩
theorem unpack_len (A : Option Addr) (c m n wd : Nat) (w : World) (hn : n ≤ 1000) (hw : wd ≤ 20) (h : ¬ m = (n * wd + 7) / 8) :
    Calls Try.prog 30 #[.slice A m c, .int .i64 n, .int .i64 wd] w fun e w' => e = .returned (.tuple #[.slice none 0 0, .int .i64 2]) ∧ w = w' := by
  have hsz := mul_bound hn hw
  have hszi : (n : Int) * wd ≤ 20000 := by rw [← Int.natCast_mul]; omega
  have hszj : 0 ≤ (n : Int) * wd := Int.mul_nonneg (by omega) (by omega)
  have hlq : ¬ (m : Int) = ((n : Int) * wd + 8 - 1) / 8 := by rw [← Int.natCast_mul]; omega
  have hlen : ((m : Int) != ((n : Int) * wd + 8 - 1) / 8) = true := by simpa using hlq
  clear h hlq hsz
  go_enter Try.func30, Try.ntmps30
  go_wp2_with (first | (go_at_call 60; refine (fits_yes _ _ _ (by omega) (by omega) (by omega) (by omega)).mono ?_; rintro e w' ⟨rfl, rfl⟩) | (go_at_call 61; refine (size_any _ _ (by omega) (by omega)).mono ?_; rintro e w' ⟨rfl, rfl⟩))
  go_ret2
  exact ⟨rfl, rfl⟩
/-- Unpack, called with whatever. -/
theorem unpack_any {m : Nat} {b : List Int} (hm : b.length = m) (A : Option Addr) (c : Nat) (n wd : Int) (w : World) (hr : Kd.C (Kd.int .u8) w A m b) (hc : m ≤ c) (hb : Bytes b) :
    Calls Try.prog 30 #[.slice A m c, .int .i64 n, .int .i64 wd] w fun e w' => ∃ v, e = .returned (.tuple #[v, .int .i64 (unpackR b n wd).2]) ∧ Kd.R (Kd.int .i64) 3 w' w.heap.size (fun _ => True) v (unpackR b n wd).1 ∧ Below w.heap.size w w' := by
  subst hm
  by_cases h : 0 ≤ wd ∧ wd ≤ 20 ∧ 0 ≤ n ∧ n ≤ 1000
  · obtain ⟨k, rfl⟩ := Int.eq_ofNat_of_zero_le h.1
    obtain ⟨m, rfl⟩ := Int.eq_ofNat_of_zero_le h.2.2.1
    by_cases hl : b.length = (m * k + 7) / 8
    · exact unpack_in A c b m k w hr hc (by omega) (by omega) hb hl
    · refine (unpack_len A c b.length m k w (by omega) (by omega) hl).mono ?_
      rintro e w' ⟨rfl, rfl⟩
      have : unpackR b m k = ([], 2) := by
        unfold unpackR
        rw [if_pos h, if_neg (by rw [← Int.natCast_mul]; omega)]
      rw [this]
      exact ⟨_, rfl, Kd.R_nil _ _ _ _ _, Below.refl _ _⟩
  · refine (unpack_out A c b.length n wd w h).mono ?_
    rintro e w' ⟨rfl, rfl⟩
    have : unpackR b n wd = ([], 1) := by
      unfold unpackR
      rw [if_neg h]
    rw [this]
    exact ⟨_, rfl, Kd.R_nil _ _ _ _ _, Below.refl _ _⟩
end Go.Proofs.Ytdijaobhijmknaa.Pk
