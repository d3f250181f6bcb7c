/- The law WaveOwn, walked. -/
import Derived.Test.YtbcplleioklkaaaLawWave
set_option linter.unusedSimpArgs false
set_option linter.unusedVariables false
namespace Go.Proofs.Ytbcplleioklkaaa.Lw
open Go.RowKit Go.Proofs.YtbcplleioklkaaaW.PrintWords Go.Proofs.YtbcplleioklkaaaW.PrintLast Go.Proofs.YtbcplleioklkaaaW.PrintMore Go.Proofs.Ytbcplleioklkaaa.Bs Go.Proofs.Ytbcplleioklkaaa.PM Go.Proofs.Ytbcplleioklkaaa.Pk Go.Proofs.Ytbcplleioklkaaa.WM Go.Proofs.Ytbcplleioklkaaa.SM Go.Proofs.Ytbcplleioklkaaa.Wv Go.Proofs.Ytbcplleioklkaaa.Rw Go.Proofs.Ytbcplleioklkaaa.Rb
attribute [local go_sem] max2_int min2_int max_two min_two
/-- A Wave whose memory lies from block B on. -/
def IsWaveOff (B : Nat) (w : World) (v : Value) (l : List Int) : Prop :=
  ∃ b A c B', B ≤ b ∧ B ≤ B' ∧ v = .pointer (some ⟨b, 0, none⟩) ∧ w.cell? ⟨b, 0, none⟩ = some (.slice A l.length c) ∧ (Kd.int .i64).R 3 w B' (fun _ => True) (.slice A l.length c) l
theorem IsWaveOff.toWave {B : Nat} {w : World} {v : Value} {l : List Int} (h : IsWaveOff B w v l) : IsWave w v l := by
  obtain ⟨b, A, c, B', h1, h2, rfl, hc, hr⟩ := h
  exact ⟨b, A, c, rfl, hc, (reads_n hr).2.1, (reads_n hr).2.2⟩
theorem IsWaveOff.put {B : Nat} {w : World} {v : Value} {l : List Int} (h : IsWaveOff B w v l) {g i : Nat} (hg : g < B) (x : Value) : IsWaveOff B (w.setCell ⟨g, i, none⟩ x) v l := by
  obtain ⟨b, A, c, B', h1, h2, rfl, hc, hr⟩ := h
  refine ⟨b, A, c, B', h1, h2, rfl, ?_, Kd.R_of_own (ownsRow_setCell_below (Kd.own_of_R hr) (show g < B' by omega) x) (fun _ _ => trivial)⟩
  have e : (w.setCell ⟨g, i, none⟩ x).heap[b]? = w.heap[b]? := Below.heap_setCell _ _ _ _ (show b ≠ g by omega)
  rw [← hc]
  simp only [World.cell?, e]
theorem IsWaveOff.drewN {B : Nat} {w : World} {v : Value} {l : List Int} (h : IsWaveOff B w v l) (n : Nat) : IsWaveOff B (w.drewN n) v l := by
  obtain ⟨b, A, c, B', h1, h2, rfl, hc, hr⟩ := h
  have hb := pw_below_drewN (Below.refl w.heap.size w) n
  exact ⟨b, A, c, B', h1, h2, rfl, (hb.cell (World.block_lt_of_cell? w _ hc)).trans hc, Kd.R_below hr hb⟩
theorem new_own (A : Option Addr) (c : Nat) (l : List Int) (wd : Int) (w : World) (hr : Kd.C (Kd.int .i64) w A l.length l) (hc : l.length ≤ c) (hlen : l.length ≤ 9223372036854775807) (hwf : ∀ i : Nat, -9223372036854775808 ≤ rd l i ∧ rd l i ≤ 9223372036854775807) (hm : May l wd) :
    Calls Try.prog 35 #[.slice A l.length c, .int .i64 wd] w fun e w' => ∃ v, e = .returned (.tuple #[v, .int .i64 0]) ∧ IsWaveOff w.heap.size w' v l ∧ Below w.heap.size w w' := by
  have hl := hm.2.2.1
  have C1 := pack_any A c l wd w hr hc hlen hwf
  rw [show packR l wd = (packed l wd.toNat, 0) by unfold packR; rw [if_pos hm]] at C1
  have C1 := Aside0.mk C1
  have C2 := Aside0.mk (fun w1 hb => clone_any (n := l.length) (l := l) rfl A c w1 (Kd.C_below (w1 := w1) hr hb) (by omega))
  clear hr hwf hm
  go_enter Try.func35, Try.ntmps35
  go_wp2_with (first
    | (go_at_call 26; (with_reducible refine C1.out.mono ?_); rintro e w3 ⟨v, rfl, hv, hb⟩; have HB := Aside0.mk hb; clear hv hb)
    | (go_at_call 64; (with_reducible refine (C2.out _ HB.out).mono ?_); rintro e w4 ⟨v, rfl, hv, hb⟩; obtain ⟨A2, c2, e2⟩ := Kd.R_slice hv; subst e2; have HB2 := Aside0.mk (below_step HB.out hb); have HV := Aside0.mk hv; have HS := Aside0.mk hb.size; clear hv hb))
  go_ret2
  refine ⟨_, rfl, ⟨w4.heap.size, A2, c2, w3.heap.size, HB2.out.size, HB.out.size, rfl, cell_new1 _ _ _, Kd.R_below HV.out (below_alloc (Below.refl _ _) _)⟩, below_alloc HB2.out _⟩
set_option maxRecDepth 100000 in
set_option maxHeartbeats 4000000 in
theorem waveOwn_in (A : Option Addr) (c : Nat) (l : List Int) (wd a b cc : Int) (w : World) (hl : l.length ≤ 200) (hm : May l wd)
    (hr : Kd.C (Kd.int .i64) w A l.length l) (hc : l.length ≤ c) (hw : ∀ x ∈ l, (Lit.int .i64 x).wf = true) (r_a : -9223372036854775808 ≤ a ∧ a ≤ 9223372036854775807) (r_b : -9223372036854775808 ≤ b ∧ b ≤ 9223372036854775807) (r_cc : -9223372036854775808 ≤ cc ∧ cc ≤ 9223372036854775807) :
    Calls Try.prog 17 #[.slice A l.length c, .int .i64 wd, .int .i64 a, .int .i64 b, .int .i64 cc] w fun e w' => e = .returned (.bool true) ∧ Below w.heap.size w w' := by
  have C1 := Aside0.mk (fun w1 hb => refMay (n := l.length) rfl A c wd w1 (Kd.C_below (w1 := w1) hr hb) (by omega) (rows_i64 hw))
  have HB := Aside0.mk (Below.refl w.heap.size w)
  have HD : Aside0 (decide (May l wd) = true) := ⟨by simp [hm]⟩
  have C2 := Aside0.mk (fun w1 hb => new_ok A c l wd w1 (Kd.C_below (w1 := w1) hr hb) hc (by omega) (rows_i64 hw) hm)
  have HX := Aside0.mk (may_range hm)
  have hx := HX.out
  have HR := Aside0.mk (fun w1 (hb : Below w.heap.size w w1) => Kd.C_below hr hb)
  have HWF := Aside0.mk (rows_i64 hw)
  have HM := Aside0.mk hm
  clear hm hr hw hx C2
  go_enter Try.func17, Try.ntmps17
  go_upto_region 3 with (first | (go_at_call 34; (with_reducible refine (C1.out _ HB.out).mono ?_); rintro e w3 ⟨rfl, hb⟩; rw [HD.out]; have n1 := Aside0.mk (below_step HB.out hb); clear HB; have HB := n1; clear n1; clear hb))
  have LR := Aside0.mk (lit_R .i64 w3 w3.heap.size 3 [] (Nat.le_refl _) (by simp))
  have HB5 := Aside0.mk (Below.refl w3.heap.size w3)
  go_upto_region 4 with (first
    | ((with_reducible refine gate_builtin (b := .append) (xs := #[.tmp 26, .tmp 27]) rfl ?_); at_builtin; refine Kd.R_append_rows (Kd.int .i64) (Rr := (Kd.int .i64).K w3) (w0 := w3) w3.heap.size rfl (.tmp 26) (.tmp 27) 26 3 (.int .i64 0) 8 rfl Try.underlying26 info_int rfl (by decide) (by omega) _ [] l _ _ _ (fun _ => True) (fun _ => False) rfl rfl ?aO ?aR (fun _ _ h => h) (fun _ h => h.elim) ?aF ?aB ?aS ?aL ?_; (case aO => exact LR.out); (case aR => exact Kd.C_below (HR.out _ HB.out) (below_alloc (Below.refl _ _) _)); (case aF => exact (fun _ _ => trivial)); (case aB => exact below_alloc HB5.out _); (case aS => simp); (case aL => simp; omega); intro v6 w6 ho hb hg hat; rw [List.nil_append] at ho; have HO := Aside0.mk ho; have HB6 := Aside0.mk (below_step HB.out hb); have HW3 := Aside0.mk HB.out.size; clear ho hb hg hat))
  obtain ⟨A2, c2, e2⟩ := Kd.R_slice HO.out
  subst e2
  have HF : Aside0 (0 < l.length → ∃ g, A2 = some ⟨g, 0, none⟩ ∧ w.heap.size ≤ g ∧ g < w6.heap.size) := ⟨fun hp => by
    obtain ⟨g, cap, e, h1, h2, _⟩ := Kd.R_form HO.out hp
    injection e with f1 f2 f3
    exact ⟨g, f1, by have := HW3.out; omega, h2⟩⟩
  have C2 := Aside0.mk (new_own A2 c2 l wd w6 (reads_n HO.out).2.2 (reads_n HO.out).2.1 (by omega) HWF.out HM.out)
  clear HB
  go_wp2_with (first
    | (go_at_call 35; (with_reducible refine C2.out.mono ?_); rintro e w7 ⟨v, rfl, hv, hb⟩; obtain ⟨bk, rfl⟩ := IsWave.form (IsWaveOff.toWave hv); have HB := Aside0.mk (below_step HB6.out hb); have HV := Aside0.mk hv; have HO2 := Aside0.mk (Kd.R_below HO.out hb); clear hv hb HO))
  clear C1 C2
  go_loopw [14] (fun x wr => ∃ (i : Nat) (ys : List Int), x = .int .i64 i ∧ i ≤ l.length ∧ Aside0 (ys.length = l.length) ∧ Aside0 ((Kd.int .i64).R 3 wr w3.heap.size (fun _ => True) (.slice A2 l.length c2) ys) ∧ Aside0 (IsWaveOff w6.heap.size wr (.pointer (some ⟨bk, 0, none⟩)) l) ∧ Aside0 (Below w.heap.size w wr)) (fun x _ => l.length - (intOf x).toNat)
  case atStart => exact ⟨0, l, rfl, by omega, ⟨rfl⟩, HO2, HV, HB⟩
  case round =>
    clear HO2 HV HB
    obtain ⟨i, ys, rfl, hi, HY, HO, HV, HB⟩ := hrel
    by_cases hlt : i < l.length
    · obtain ⟨g, rfl, hg1, hg2⟩ := HF.out (by omega)
      obtain ⟨hxc, hfc⟩ := at_own HO.out i (by omega)
      go_wp2
      go_roundw
      case rel => exact ⟨i + 1, _, by go_num, by omega, ⟨by rw [List.length_set]; exact HY.out⟩, ⟨put_own HO.out i (-1)⟩, ⟨IsWaveOff.put HV.out hg2 _⟩, ⟨HB.out.setCell hg1 _⟩⟩
      case measure => simp [intOf]; omega
    · clear HO HY HF
      go_wp2
      go_loopw [15] (fun x wr => ∃ i : Nat, x = .int .i64 i ∧ i ≤ l.length ∧ Aside0 (IsWaveOff w6.heap.size wr (.pointer (some ⟨bk, 0, none⟩)) l) ∧ Aside0 (Below w.heap.size w wr)) (fun x _ => l.length - (intOf x).toNat)
      case atStart => exact ⟨0, rfl, by omega, HV, HB⟩
      case round =>
        clear HV HB
        obtain ⟨j, rfl, hj, HV, HB⟩ := hrel
        by_cases hlt : j < l.length
        · obtain ⟨ad, e1, hcell⟩ := at_arg (HR.out _ HB.out) j hlt
          cases e1
          obtain ⟨x, hx⟩ : ∃ x, x = rd l j := ⟨_, rfl⟩
          have TX := Aside0.mk hx.symm
          rw [← hx] at hcell
          clear hx
          have HBN : Aside0 (∀ n, Below w.heap.size w (wr.drewN n)) := ⟨fun n => pw_below_drewN HB.out n⟩
          have QA : Aside0 (∀ n, Calls Try.prog 40 #[.pointer (some ⟨bk, 0, none⟩), .int .i64 j] (wr.drewN n) fun e w' => e = .returned (.int .i64 x) ∧ w' = wr.drewN n) := ⟨fun n => (access_any (IsWaveOff.toWave (HV.out.drewN n)) (j : Int) (by omega)).mono fun e w' h => ⟨by rw [h.1, if_pos (by omega), TX.out], h.2.symm⟩⟩
          go_wp2
          go_quiet (first
            | (go_at_call 40; exact Calls.quiet_of_same (QA.out _)))
          go_wp2
          go_roundw
          case rel => exact ⟨j + 1, by go_num, by omega, ⟨HV.out.drewN _⟩, ⟨HBN.out _⟩⟩
          case measure => simp [intOf]; omega
        · clear HV
          go_wp2_with (first
            | (go_at_call 39; (with_reducible refine (len_nil _).mono ?_); rintro e w3 ⟨rfl, rfl⟩)
            | (go_at_call 37; (with_reducible refine (rank_nil _ _ _).mono ?_); rintro e w3 ⟨rfl, rfl⟩)
            | (go_at_call 36; (with_reducible refine (count_nil _ _ _ _ _).mono ?_); rintro e w3 ⟨rfl, rfl⟩)
            | (go_at_call 47; (with_reducible refine (distinct_nil _ _ _).mono ?_); rintro e w3 ⟨u, d, rfl, hd, hdl, hv, hb⟩; obtain ⟨A1, c1, e1⟩ := Kd.R_slice hv; rw [show d.length = 0 by simpa using hdl] at e1; subst e1; have n1 := Aside0.mk (below_step HB.out hb); clear HB; have HB := n1; clear n1; clear hd hdl hv hb)
            | (go_at_call 40; (with_reducible refine (access_nil _ _).mono ?_); rintro e w3 ⟨rfl, rfl⟩)
            | (go_at_call 42; (with_reducible refine (select_nil _ _ _ r_b.1 r_b.2).mono ?_); rintro e w3 ⟨rfl, rfl⟩)
            | (go_at_call 44; (with_reducible refine (next_nil _ _ _ _).mono ?_); rintro e w3 ⟨rfl, rfl⟩)
            | (go_at_call 38; (with_reducible refine (known_w _).mono ?_); rintro e w3 ⟨rfl, hb⟩; have n1 := Aside0.mk (below_step HB.out hb); clear HB; have HB := n1; clear n1; clear hb))
          go_ret
          exact ⟨rfl, HB.out⟩
set_option maxRecDepth 100000 in
set_option maxHeartbeats 4000000 in
theorem waveOwn_law (A : Option Addr) (c : Nat) (l : List Int) (wd a b cc : Int) (w : World)
    (hr : Kd.C (Kd.int .i64) w A l.length l) (hc : l.length ≤ c) (hmx : l.length ≤ maxLen) (hy : l.length * 8 ≤ 140737488351232) (hw : ∀ x ∈ l, (Lit.int .i64 x).wf = true) (w_wd : (Lit.int .i64 wd).wf = true) (w_a : (Lit.int .i64 a).wf = true) (w_b : (Lit.int .i64 b).wf = true) (w_cc : (Lit.int .i64 cc).wf = true):
    Calls Try.prog 17 #[.slice A l.length c, .int .i64 wd, .int .i64 a, .int .i64 b, .int .i64 cc] w fun e w' => e = .returned (.bool true) ∧ Below w.heap.size w w' := by
  by_cases h : 200 < l.length
  · clear hr hw
    go_enter Try.func17, Try.ntmps17
    go_wp2
    go_ret
    exact ⟨rfl, Below.refl _ _⟩
  · by_cases hm : May l wd
    · exact waveOwn_in A c l wd a b cc w (by omega) hm hr hc hw (wf_i64 w_a) (wf_i64 w_b) (wf_i64 w_cc)
    · have C1 := Aside0.mk (fun w1 hb => refMay (n := l.length) rfl A c wd w1 (Kd.C_below (w1 := w1) hr hb) (by omega) (rows_i64 hw))
      have HB := Aside0.mk (Below.refl w.heap.size w)
      have HD : Aside0 (decide (May l wd) = false) := ⟨by simp [hm]⟩
      have HM := Aside0.mk hm
      clear hm hr hw
      go_enter Try.func17, Try.ntmps17
      go_wp2_with (first | (go_at_call 34; (with_reducible refine (C1.out _ HB.out).mono ?_); rintro e w3 ⟨rfl, hb⟩; rw [HD.out]; have n1 := Aside0.mk (below_step HB.out hb); clear HB; have HB := n1; clear n1; clear hb))
      go_ret
      exact ⟨rfl, HB.out⟩
end Go.Proofs.Ytbcplleioklkaaa.Lw
