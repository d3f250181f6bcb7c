/- The law PackBytes, walked. -/
import Derived.Test.YtejnmbgjledgeaaLawTells
import Derived.StillTailTactics
import Derived.Deep.RegionLaw
set_option linter.unusedSimpArgs false
set_option linter.unusedVariables false
namespace Go.Proofs.Ytejnmbgjledgeaa.Lb
open Go.RowKit Go.Proofs.YtejnmbgjledgeaaW.PrintWords Go.Proofs.YtejnmbgjledgeaaW.PrintLast Go.Proofs.YtejnmbgjledgeaaW.PrintMore Go.Proofs.Ytejnmbgjledgeaa.Bs Go.Proofs.Ytejnmbgjledgeaa.PM Go.Proofs.Ytejnmbgjledgeaa.Pk Go.Proofs.Ytejnmbgjledgeaa.Rb
attribute [local go_sem] max2_int min2_int max_two min_two

/-- Two bytes, the lower one first. -/
def pairs (l : List Int) (m : Nat) : List Int := (List.range m).map fun j => rd l ((2 * j : Nat) : Int) + 256 * rd l ((2 * j + 1 : Nat) : Int)
theorem pairs_length (l : List Int) (m : Nat) : (pairs l m).length = m := by simp [pairs]
theorem pairs_succ (l : List Int) (m : Nat) : pairs l (m + 1) = pairs l m ++ [rd l ((2 * m : Nat) : Int) + 256 * rd l ((2 * m + 1 : Nat) : Int)] := by
  simp [pairs, List.range_succ]
theorem rd_pairs (l : List Int) (m j : Nat) (h : j < m) : rd (pairs l m) (j : Int) = rd l ((2 * j : Nat) : Int) + 256 * rd l ((2 * j + 1 : Nat) : Int) := by
  rw [rd_nat]; simp [pairs, h]
theorem bytes_ok {l : List Int} (h : Bytes l) : AllOk l 8 := fun k hk => by
  have := h.rd_ (k : Int)
  exact ⟨this.1, by have := this.2; omega⟩
theorem packed_bytes {l : List Int} (h : Bytes l) : packed l 8 = l := by
  obtain ⟨h1, h2⟩ := packed_spec (wd := 8) (by omega) (bytes_ok h)
  apply bytes_ext h1 h
  · rw [packed_length]; omega
  · intro q hq
    rw [packed_length] at hq
    rw [h2]
    have : q < l.length * 8 := by omega
    simp only [this, decide_true, Bool.true_and]
    rfl
theorem pairs_ok {l : List Int} (h : Bytes l) (m : Nat) : AllOk (pairs l m) 16 := fun k hk => by
  rw [pairs_length] at hk
  rw [rd_pairs l m k hk]
  have a := h.rd_ ((2 * k : Nat) : Int)
  have b := h.rd_ ((2 * k + 1 : Nat) : Int)
  omega
theorem packed_pairs {l : List Int} (h : Bytes l) (m : Nat) (hm : 2 * m ≤ l.length) : packed (pairs l m) 16 = l.take (2 * m) := by
  obtain ⟨h1, h2⟩ := packed_spec (wd := 16) (by omega) (pairs_ok h m)
  apply bytes_ext h1 (fun x hx => h x (List.mem_of_mem_take hx))
  · rw [packed_length, pairs_length, List.length_take]; omega
  · intro q hq
    rw [packed_length, pairs_length] at hq
    rw [h2, pairs_length]
    have hlt : q < m * 16 := by omega
    have hj : q / 16 < m := by omega
    rw [rd_pairs l m _ hj]
    simp only [hlt, decide_true, Bool.true_and]
    unfold bitAt
    have e : rd (l.take (2 * m)) ((q / 8 : Nat) : Int) = rd l ((q / 8 : Nat) : Int) := by
      rw [rd_nat, rd_nat, List.getD_eq_getElem?_getD, List.getElem?_take, if_pos (by omega), ← List.getD_eq_getElem?_getD]
    rw [e]
    obtain ⟨a0, a1⟩ := h.rd_ ((2 * (q / 16) : Nat) : Int)
    obtain ⟨b0, b1⟩ := h.rd_ ((2 * (q / 16) + 1 : Nat) : Int)
    obtain ⟨x, hx⟩ := Int.eq_ofNat_of_zero_le a0
    obtain ⟨y, hy⟩ := Int.eq_ofNat_of_zero_le b0
    rw [hx, hy]
    have e2 : ((x : Int) + 256 * (y : Int)).toNat = 2 ^ 8 * y + x := by omega
    rw [e2, Nat.testBit_two_pow_mul_add _ (by omega : x < 2 ^ 8)]
    by_cases c : q % 16 < 8
    · have e3 : q / 8 = 2 * (q / 16) := by omega
      have e4 : q % 8 = q % 16 := by omega
      rw [if_pos c, e3, hx, e4]; rfl
    · have e3 : q / 8 = 2 * (q / 16) + 1 := by omega
      have e4 : q % 8 = q % 16 - 8 := by omega
      rw [if_neg c, e3, hy, e4]; rfl
theorem and_one (i : Nat) (h : i ≤ 1000000) : Go.bits .and .i64 (i : Int) 1 = ((i % 2 : Nat) : Int) := by
  have := bit_lsb (i : Int) 0 (by omega) (by omega)
  simp only [Nat.pow_zero, Int.pow_zero, Int.ediv_one] at this
  rw [this, Int.toNat_natCast, Nat.testBit_eq_decide_div_mod_eq]
  have : i % 2 < 2 := Nat.mod_lt _ (by decide)
  by_cases c : i % 2 = 1
  · simp [c]
  · have : i % 2 = 0 := by omega
    simp [this]
theorem or_pair {a b : Int} (a0 : 0 ≤ a) (a1 : a < 256) (b0 : 0 ≤ b) (b1 : b < 256) : Go.bits .or .i64 a (b * 256) = a + 256 * b := by
  obtain ⟨x, rfl⟩ := Int.eq_ofNat_of_zero_le a0
  obtain ⟨y, rfl⟩ := Int.eq_ofNat_of_zero_le b0
  have e : (y : Int) * 256 = ((2 ^ 8 * y : Nat) : Int) := by omega
  rw [e, (Go.bits_nat .i64 63 (by decide) wraps_i64_ x (2 ^ 8 * y) (by omega) (by omega)).2]
  have := Nat.two_pow_add_eq_or_of_lt (show x < 2 ^ 8 by omega) y
  rw [Nat.or_comm, ← this]
  omega
theorem block_lt {α : Type} {d : Kd α} {e base : Nat} {ok : Nat → Prop} {W : World} {v : Value} {xs : List α} (h : d.R e W base ok v xs) : ∀ k, v.ownBlock = some k → k < W.heap.size := fun k hk => by
  obtain ⟨inner, ho⟩ := Kd.R_own h
  exact own_lt ho k hk
/-- Two rows of the call's own that share no block. -/
def Apart (v u : Value) : Prop := ∀ k, v.ownBlock = some k → u.ownBlock ≠ some k
theorem apart_symm {v u : Value} (h : Apart v u) : Apart u v := fun k hk hv => h k hv hk
theorem apart_next {α : Type} {d : Kd α} {e base : Nat} {ok : Nat → Prop} {W : World} {v v1 u : Value} {xs : List α} (h : Apart v u) (hu : d.R e W base ok u xs) (hat : v1.ownBlock = v.ownBlock ∨ ∃ b, v1.ownBlock = some b ∧ W.heap.size ≤ b) : Apart v1 u := fun k hk hn => by
  rcases hat with hat | ⟨b, hb, hle⟩
  · exact h k (hat ▸ hk) hn
  · rw [hb] at hk
    injection hk with hk
    have := block_lt hu k hn
    omega
theorem other_row {k : IntKind} {e base : Nat} {ok : Nat → Prop} {W w1 : World} {v u : Value} {xs : List Int} (h : Apart v u) (hu : (Kd.int k).R e W base ok u xs) (hg : W.grownBy w1 v.ownBlock) : (Kd.int k).R e w1 base ok u xs :=
  Kd.R_grown2 hu rfl hg (fun k hk he => h k hk he.symm)
theorem bytes_out (A : Option Addr) (c : Nat) (l : List Int) (w : World) (hl : l.length ≤ 9223372036854775807) (h : 500 < l.length) :
    Calls Try.prog 4 #[.slice A l.length c] w fun e w' => e = .returned (.bool true) ∧ Below w.heap.size w w' := by
  go_enter Try.func4, Try.ntmps4
  go_wp2
  go_ret
  exact ⟨rfl, Below.refl _ _⟩
theorem take_snoc_rd (l : List Int) (i : Nat) (h : i < l.length) : l.take (i + 1) = l.take i ++ [rd l (i : Int)] := by
  rw [List.take_succ_eq_append_getElem h, rd_nat]; simp [h]
set_option maxHeartbeats 4000000 in
set_option maxRecDepth 100000 in
theorem bytes_in (A : Option Addr) (c : Nat) (l : List Int) (w : World) (hr : Kd.C (Kd.int .u8) w A l.length l) (hc : l.length ≤ c) (hl : l.length ≤ 500) (hby : Bytes l) :
    Calls Try.prog 4 #[.slice A l.length c] w fun e w' => e = .returned (.bool true) ∧ Below w.heap.size w w' := by
  have HR := Aside0.mk hr
  have HBY := Aside0.mk hby
  clear hr hby
  go_enter Try.func4, Try.ntmps4
  go_wp2
  go_loopw [3, 4, 5] (fun v u x wr => ∃ i : Nat, x = .int .i64 i ∧ i ≤ l.length ∧ Aside0 (Kd.R (Kd.int .i64) 3 wr w.heap.size (fun _ => True) v (l.take i)) ∧ Aside0 (Kd.R (Kd.int .i64) 3 wr w.heap.size (fun _ => True) u (pairs l (i / 2))) ∧ Aside0 (Apart v u) ∧ Aside0 (Below w.heap.size w wr)) (fun _ _ x _ => l.length - (intOf x).toNat)
  case atStart => exact ⟨0, rfl, by omega, ⟨Kd.R_nil _ _ _ _ _⟩, ⟨Kd.R_nil _ _ _ _ _⟩, ⟨fun k hk => by simp [Value.ownBlock] at hk⟩, ⟨Below.refl _ _⟩⟩
  case round =>
    obtain ⟨i, rfl, hi, HV, HU, HA, HB⟩ := hrel
    by_cases hlt : i < l.length
    · obtain ⟨ad, e1, hx⟩ := at_later HR.out HB.out i hlt
      cases e1
      obtain ⟨b0, b1⟩ := HBY.out.rd_ (i : Int)
      have hand := and_one i (by omega)
      by_cases hp : i % 2 = 1
      · rw [hp] at hand
        replace hand : Go.bits .and .i64 (i : Int) 1 = 1 := hand
        go_upto_region 8 with (first
          | ((with_reducible refine gate_builtin (b := .append) (xs := #[.tmp 19, .tmp 25]) rfl ?_); at_builtin; refine Kd.R_append (Kd.int .i64) (w0 := w) w.heap.size rfl (.tmp 19) (.tmp 25) 26 3 (.int .i64 0) 8 rfl Try.underlying26 info_int rfl (by decide) (by omega) u3 (l.take i) (rd l (i : Int)) [.int .i64 (rd l (i : Int))] (fun _ => True) (fun _ => False) rfl rfl ?aP (fun _ hk => hk.elim) ?aF ?aO ?aB ?aS ?aL ?_; (case aP => exact rfl); (case aB => exact HB.out); (case aF => exact (fun _ _ => trivial)); (case aO => exact HV.out); (case aS => exact HB.out.size); (case aL => rw [List.length_take]; omega); intro v1 w1 ho hb hg hat; have n1 := Aside0.mk ho; have n2 := Aside0.mk (other_row HA.out HU.out hg); have n3 := Aside0.mk (apart_next HA.out HU.out hat); have n4 := Aside0.mk hb; clear ho hb hg hat HV HU HA HB; have HV := n1; have HU := n2; have HA := n3; have HB := n4; clear n1 n2 n3 n4))
        clear hx
        obtain ⟨ad', e1, hx⟩ := at_later HR.out HB.out i hlt
        injection e1 with e1
        subst e1
        obtain ⟨ad'', e2, hy⟩ := at_later HR.out HB.out (i - 1) (by omega)
        injection e2 with e2
        subst e2
        obtain ⟨c0, c1⟩ := HBY.out.rd_ ((i - 1 : Nat) : Int)
        have hi1 : IntKind.i64.wrap ((i : Int) - 1) = ((i - 1 : Nat) : Int) := by rw [wraps_i64_ _ (by omega) (by omega)]; omega
        have hi2 : ((i - 1 : Nat) : Int) < (l.length : Int) := by omega
        go_upto_region 9 with (fail)
        have hsub : (i : Int) - 1 < l.length := by omega
        have hsub0 : 0 ≤ (i : Int) - 1 := by omega
        have hsub1 : 1 ≤ (i : Int) := by omega
        have hq1 : IntKind.i64.wrap (rd l ((i - 1 : Nat) : Int)) = rd l ((i - 1 : Nat) : Int) := wraps_i64_ _ c0 (by omega)
        have hq2 : IntKind.i64.wrap (rd l (i : Int)) = rd l (i : Int) := wraps_i64_ _ b0 (by omega)
        have hq3 : IntKind.i64.wrap (rd l (i : Int) * 256) = rd l (i : Int) * 256 := wraps_i64_ _ (by omega) (by omega)
        have hq4 := or_pair c0 c1 b0 b1
        go_region_law (first
          | (refine Kd.R_append_step (Kd.int .i64) (w0 := w) (W := w1.drew) w.heap.size ?aW (.tmp 30) (.tmp 44) 26 3 (.int .i64 0) 8 ?aO1 Try.underlying26 info_int rfl (by decide) (by omega) u4 (pairs l (i / 2)) (rd l ((i - 1 : Nat) : Int) + 256 * rd l (i : Int)) [.int .i64 (rd l ((i - 1 : Nat) : Int) + 256 * rd l (i : Int))] (fun _ => True) (fun _ => False) ?aE ?aX ?aP (fun _ hk => hk.elim) ?aF ?aO ?aB ?aS ?aL ?_; (case aW => rfl); (case aO1 => rfl); (case aE => rfl); (case aX => rfl); (case aP => exact rfl); (case aF => exact (fun _ _ => trivial)); (case aO => exact Kd.R_drew HU.out); (case aB => exact below_drew HB.out); (case aS => exact HB.out.size); (case aL => rw [pairs_length]; omega); intro v2 w2 ho hb hg hat; have n1 := Aside0.mk ho; have n2 := Aside0.mk (other_row (apart_symm HA.out) (Kd.R_drew HV.out) hg); have n3 := Aside0.mk (apart_symm (apart_next (apart_symm HA.out) (Kd.R_drew HV.out) hat)); have n4 := Aside0.mk hb; clear ho hb hg hat HV HU HA HB; have HV := n2; have HU := n1; have HA := n3; have HB := n4; clear n1 n2 n3 n4))
        all_goals
          go_wp2
          go_roundw
          case rel =>
            refine ⟨i + 1, by go_num, by omega, ⟨?_⟩, ⟨?_⟩, HA, HB⟩
            · rw [take_snoc_rd l i hlt]; exact HV.out
            · have e3 : (i + 1) / 2 = i / 2 + 1 := by omega
              have e4 : 2 * (i / 2) = i - 1 := by omega
              have e5 : i - 1 + 1 = i := by omega
              rw [e3, pairs_succ, e4, e5]; exact HU.out
          case measure => simp [intOf]; omega
      · have hp0 : i % 2 = 0 := by omega
        rw [hp0] at hand
        replace hand : Go.bits .and .i64 (i : Int) 1 = 0 := hand
        go_upto_region 8 with (first
          | ((with_reducible refine gate_builtin (b := .append) (xs := #[.tmp 19, .tmp 25]) rfl ?_); at_builtin; refine Kd.R_append (Kd.int .i64) (w0 := w) w.heap.size rfl (.tmp 19) (.tmp 25) 26 3 (.int .i64 0) 8 rfl Try.underlying26 info_int rfl (by decide) (by omega) u3 (l.take i) (rd l (i : Int)) [.int .i64 (rd l (i : Int))] (fun _ => True) (fun _ => False) rfl rfl ?aP (fun _ hk => hk.elim) ?aF ?aO ?aB ?aS ?aL ?_; (case aP => exact rfl); (case aB => exact HB.out); (case aF => exact (fun _ _ => trivial)); (case aO => exact HV.out); (case aS => exact HB.out.size); (case aL => rw [List.length_take]; omega); intro v1 w1 ho hb hg hat; have n1 := Aside0.mk ho; have n2 := Aside0.mk (other_row HA.out HU.out hg); have n3 := Aside0.mk (apart_next HA.out HU.out hat); have n4 := Aside0.mk hb; clear ho hb hg hat HV HU HA HB; have HV := n1; have HU := n2; have HA := n3; have HB := n4; clear n1 n2 n3 n4))
        go_wp2
        go_roundw
        case rel =>
          refine ⟨i + 1, by go_num, by omega, ⟨?_⟩, ⟨?_⟩, HA, HB⟩
          · rw [take_snoc_rd l i hlt]; exact HV.out
          · have e3 : (i + 1) / 2 = i / 2 := by omega
            rw [e3]; exact HU.out
        case measure => simp [intOf]; omega
    · have hin : i = l.length := by omega
      subst hin
      rw [List.take_length] at HV
      obtain ⟨A1, c1, e1⟩ := Kd.R_slice HV.out
      obtain ⟨A2, c2, e2⟩ := Kd.R_slice HU.out
      rw [pairs_length] at e2
      subst e1
      subst e2
      have hw1 : ∀ k : Nat, -9223372036854775808 ≤ rd l k ∧ rd l k ≤ 9223372036854775807 := fun k => by have := HBY.out.rd_ (k : Int); omega
      have hw2 : ∀ k : Nat, -9223372036854775808 ≤ rd (pairs l (l.length / 2)) k ∧ rd (pairs l (l.length / 2)) k ≤ 9223372036854775807 := fun k => by
        by_cases hk : k < l.length / 2
        · have := pairs_ok HBY.out (l.length / 2) k (by rw [pairs_length]; exact hk)
          omega
        · rw [rd_nat, List.getD_eq_getElem?_getD, List.getElem?_eq_none (by rw [pairs_length]; omega)]
          simp
      have P1 : packR l 8 = (l, 0) := by rw [show packR l 8 = (packed l 8, 0) from packed_may (wd := 8) (by omega) (by omega) (bytes_ok HBY.out), packed_bytes HBY.out]
      have P2 : packR (pairs l (l.length / 2)) 16 = (l.take (2 * (l.length / 2)), 0) := by
        rw [show packR (pairs l (l.length / 2)) 16 = (packed (pairs l (l.length / 2)) 16, 0) from packed_may (wd := 16) (by omega) (by rw [pairs_length]; omega) (pairs_ok HBY.out _), packed_pairs HBY.out _ (by omega)]
      have C1 := Aside0.mk (pack_n (n := l.length) (l := l) rfl A1 c1 8 wr (reads_n HV.out).2.2 (reads_n HV.out).2.1 (by omega) hw1)
      have C2 := Aside0.mk (fun w1 hb => pack_n (n := l.length / 2) (l := pairs l (l.length / 2)) (pairs_length _ _) A2 c2 16 w1 (Kd.C_below (w1 := w1) (reads_n HU.out).2.2 hb) (reads_n HU.out).2.1 (by omega) hw2)
      rw [P1] at C1
      rw [P2] at C2
      have htl : (l.take (2 * (l.length / 2))).length = l.length / 2 * 2 := by rw [List.length_take]; omega
      have HTL := Aside0.mk htl
      have HB0 := Aside0.mk (Below.refl wr.heap.size wr)
      clear P1 P2 hw1 hw2 htl
      go_upto_region 12 with (first
        | (go_at_call 10; (with_reducible refine C1.out.mono ?_); rintro e w3 ⟨v, rfl, hv, hb⟩; obtain ⟨A3, c3, e3⟩ := Kd.R_slice hv; replace e3 : v = .slice A3 l.length c3 := e3; subst e3; have n1 := Aside0.mk (below_step HB0.out hb); clear HB0; have HB0 := n1; clear n1; have H3 := Aside0.mk hv; clear hv hb C1)
        | (go_at_call 10; (with_reducible refine (C2.out _ HB0.out).mono ?_); rintro e w4 ⟨v, rfl, hv, hb⟩; obtain ⟨A4, c4, e4⟩ := Kd.R_slice hv; replace e4 : v = .slice A4 (l.take (2 * (l.length / 2))).length c4 := e4; rw [HTL.out] at e4; subst e4; have n1 := Aside0.mk (below_step HB0.out hb); clear HB0; have HB0 := n1; clear n1; have n1 := Aside0.mk (Kd.R_below H3.out hb); clear H3; have H3 := n1; clear n1; have H4 := Aside0.mk hv; clear hv hb))
      have hdr : Below w4.heap.size w4 w4.drew := below_drew (Below.refl _ _)
      have S3 := Kd.C_string Try.underlying22 Try.underlying5 Try.underlying9 (c := c3) (Kd.C_below (reads_n H3.out).2.2 hdr)
      have S4 := Kd.C_string Try.underlying22 Try.underlying5 Try.underlying9 (c := c4) (Kd.C_below (reads_n H4.out).2.2 hdr)
      have HRw := Kd.C_below HR.out (below_step HB.out (HB0.out.trans (hdr.mono HB0.out.size)))
      have S0 := Kd.C_string Try.underlying22 Try.underlying5 Try.underlying9 (c := c) HRw
      have HRt := Kd.C_take (m := 2 * (l.length / 2)) HRw (by omega)
      rw [HTL.out] at HRt
      have S5 := Kd.C_string Try.underlying22 Try.underlying5 Try.underlying9 (c := c) HRt
      have hd1 : IntKind.i64.wrap ((l.length : Int) / 2) = (l.length : Int) / 2 := wraps_i64_ _ (by omega) (by omega)
      have hd2 : IntKind.i64.wrap ((l.length : Int) / 2 * 2) = (l.length : Int) / 2 * 2 := wraps_i64_ _ (by omega) (by omega)
      have hd3 : 0 ≤ (l.length : Int) / 2 * 2 := by omega
      have hd4 : (l.length : Int) / 2 * 2 ≤ (c : Int) := by omega
      have hd5 : ((l.length : Int) / 2 * 2).toNat = l.length / 2 * 2 := by omega
      clear HRw HRt hdr
      refine wp_region_still_tail 26 (by kernel_rfl) (by kernel_rfl) ?_
      have HBd := Aside0.mk (below_drew HB0.out)
      clear HB0
      rw [show ({ heap := w4.heap, tape := w4.tape, drawn := w4.drawn + 1, os := w4.os, output := w4.output } : World) = w4.drew from rfl]
      generalize w4.drew = w5 at S3 S4 S0 S5 HBd ⊢
      simp only [List.take_succ_cons, List.take_zero, List.drop_succ_cons, List.drop_zero]
      repeat still_step
      try refine wpStill_nil ?_
      go_wp2_with (first
        | (go_at_call 12; (with_reducible refine (known_any _).mono ?_); rintro e w6 ⟨rfl, hb⟩; have n2 := Aside0.mk (below_step HB.out (below_step HBd.out hb)); clear HB hb; have HB := n2; clear n2))
      go_ret
      exact ⟨rfl, HB.out⟩
theorem packBytes_law (A : Option Addr) (c : Nat) (l : List Int) (w : World)
    (hr : Kd.C (Kd.int .u8) w A l.length l) (hc : l.length ≤ c) (hm : l.length ≤ maxLen) (hy : l.length * 1 ≤ 140737488351232) (hw : ∀ x ∈ l, (Lit.int .u8 x).wf = true) :
    Calls Try.prog 4 #[.slice A l.length c] w fun e w' => e = .returned (.bool true) ∧ Below w.heap.size w w' := by
  by_cases h : 500 < l.length
  · exact bytes_out A c l w (by omega) h
  · exact bytes_in A c l w hr hc (by omega) (bytes_of_wf hw)
end Go.Proofs.Ytejnmbgjledgeaa.Lb
