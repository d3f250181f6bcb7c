/- The law WaveTells, walked. -/
import Derived.Test.YtbcplleioklkaaaLawWave
set_option linter.unusedSimpArgs false
set_option linter.unusedVariables false
namespace Go.Proofs.Ytbcplleioklkaaa.Lw
open Go.RowKit Go.Proofs.YtbcplleioklkaaaW.PrintWords Go.Proofs.YtbcplleioklkaaaW.PrintLast Go.Proofs.YtbcplleioklkaaaW.PrintMore Go.Proofs.Ytbcplleioklkaaa.Bs Go.Proofs.Ytbcplleioklkaaa.PM Go.Proofs.Ytbcplleioklkaaa.Pk Go.Proofs.Ytbcplleioklkaaa.WM Go.Proofs.Ytbcplleioklkaaa.SM Go.Proofs.Ytbcplleioklkaaa.Wv Go.Proofs.Ytbcplleioklkaaa.Rw Go.Proofs.Ytbcplleioklkaaa.Rb
attribute [local go_sem] max2_int min2_int max_two min_two
set_option maxRecDepth 100000 in
set_option maxHeartbeats 4000000 in
theorem waveTells_in (A : Option Addr) (c : Nat) (l : List Int) (wd v at_ : Int) (w : World) (hl : l.length ≤ 200) (hm : May l wd)
    (hr : Kd.C (Kd.int .i64) w A l.length l) (hc : l.length ≤ c) (hw : ∀ x ∈ l, (Lit.int .i64 x).wf = true) (r_v : -9223372036854775808 ≤ v ∧ v ≤ 9223372036854775807) (r_at_ : -9223372036854775808 ≤ at_ ∧ at_ ≤ 9223372036854775807) :
    Calls Try.prog 11 #[.slice A l.length c, .int .i64 wd, .int .i64 v, .int .i64 at_] w fun e w' => e = .returned (.bool true) ∧ Below w.heap.size w w' := by
  have C1 := Aside0.mk (fun w1 hb => refMay (n := l.length) rfl A c wd w1 (Kd.C_below (w1 := w1) hr hb) (by omega) (rows_i64 hw))
  have HB := Aside0.mk (Below.refl w.heap.size w)
  have HD : Aside0 (decide (May l wd) = true) := ⟨by simp [hm]⟩
  have C2 := Aside0.mk (fun w1 hb => new_ok A c l wd w1 (Kd.C_below (w1 := w1) hr hb) hc (by omega) (rows_i64 hw) hm)
  have HX := Aside0.mk (may_range hm)
  have hx := HX.out
  have C3 := Aside0.mk (fun w1 x i (hb : Below w.heap.size w w1) => refRank (n := l.length) rfl A c x i w1 (Kd.C_below hr hb) hc (by omega))
  have C4 := Aside0.mk (fun w1 x k (hb : Below w.heap.size w w1) => refSelect (n := l.length) rfl A c x k w1 (Kd.C_below hr hb) hc (by omega))
  have HR := Aside0.mk (fun w1 (hb : Below w.heap.size w w1) => Kd.C_below hr hb)
  have A1 : Aside0 ((if (0 : Int) ≤ -1 ∧ (-1 : Int) < l.length then rd l (-1) else -1) = -1) := ⟨by simp⟩
  have A2 : Aside0 ((if (0 : Int) ≤ l.length ∧ (l.length : Int) < l.length then rd l l.length else -1) = -1) := ⟨by simp⟩
  have HM := Aside0.mk hm
  clear hm hr hw hx
  go_enter Try.func11, Try.ntmps11
  go_wp2_with (first
    | (go_at_call 35; (with_reducible refine (C2.out _ HB.out).mono ?_); rintro e w3 ⟨v, rfl, hv, hb⟩; obtain ⟨bk, rfl⟩ := IsWave.form hv; have n1 := Aside0.mk (below_step HB.out hb); clear HB; have HB := n1; clear n1; have HV := Aside0.mk hv; clear hv hb)
    | (go_at_call 34; (with_reducible refine (C1.out _ HB.out).mono ?_); rintro e w3 ⟨rfl, hb⟩; rw [HD.out]; have n1 := Aside0.mk (below_step HB.out hb); clear HB; have HB := n1; clear n1; have n1 := Aside0.mk (IsWave.below HV.out hb); clear HV; have HV := n1; clear n1; clear hb)
    | (go_at_call 39; (with_reducible refine (len_any HV.out).mono ?_); rintro e w3 ⟨rfl, rfl⟩))
  rename_i w0 _
  clear C1 C2
  go_loopw [12] (fun x wr => ∃ i : Nat, x = .int .i64 i ∧ i ≤ l.length ∧ Aside0 (Below w.heap.size w wr) ∧ Aside0 (IsWave wr (.pointer (some ⟨bk, 0, none⟩)) l)) (fun x _ => l.length - (intOf x).toNat)
  case atStart => exact ⟨0, rfl, by omega, HB, HV⟩
  case round =>
    clear HB HV
    obtain ⟨i, rfl, hi, HB, HV⟩ := hrel
    by_cases hlt : i < l.length
    · obtain ⟨ad, e1, hcell⟩ := at_arg (HR.out _ HB.out) i hlt
      cases e1
      have T1 : Aside0 ((if (0 : Int) ≤ i ∧ (i : Int) < l.length then rd l i else -1) = rd l i) := ⟨by rw [if_pos (by omega)]⟩
      have T2 := Aside0.mk (selectI_rank l i hlt)
      have T3 : Aside0 (cutI l 0 i = l.take i) := ⟨by rw [cutI_zero]; simp⟩
      obtain ⟨x, hx⟩ : ∃ x, x = rd l i := ⟨_, rfl⟩
      obtain ⟨K, hK⟩ : ∃ K, K = countI (l.take i) x x := ⟨_, rfl⟩
      have TX := Aside0.mk hx.symm
      rw [← hx] at T2 hcell
      rw [← hK] at T2
      have TK := Aside0.mk hK.symm
      have hKi : K ≤ i := by rw [hK]; have := countI_le (l.take i) x x; rw [List.length_take] at this; omega
      have HVN : Aside0 (∀ n, IsWave (wr.drewN n) (.pointer (some ⟨bk, 0, none⟩)) l) := ⟨fun n => IsWave.below HV.out (pw_below_drewN (Below.refl wr.heap.size wr) n)⟩
      have HBN : Aside0 (∀ n, Below w.heap.size w (wr.drewN n)) := ⟨fun n => pw_below_drewN HB.out n⟩
      have QA : Aside0 (∀ n, Calls Try.prog 40 #[.pointer (some ⟨bk, 0, none⟩), .int .i64 i] (wr.drewN n) fun e w' => e = .returned (.int .i64 x) ∧ w' = wr.drewN n) := ⟨fun n => (access_any (HVN.out n) (i : Int) (by omega)).mono fun e w' h => ⟨by rw [h.1, T1.out, TX.out], h.2.symm⟩⟩
      have QR : Aside0 (∀ n, Calls Try.prog 37 #[.pointer (some ⟨bk, 0, none⟩), .int .i64 x, .int .i64 i] (wr.drewN n) fun e w' => e = .returned (.int .i64 K) ∧ w' = wr.drewN n) := ⟨fun n => (rank_any (HVN.out n) x (i : Int) (by omega)).mono fun e w' h => ⟨by rw [h.1, T3.out, TK.out], h.2.symm⟩⟩
      have QRR : Aside0 (∀ n, Calls Try.prog 41 #[.slice (some ad) l.length c, .int .i64 x, .int .i64 i] (wr.drewN n) fun e w' => e = .returned (.int .i64 K) ∧ w' = wr.drewN n) := ⟨fun n => (C3.out _ x (i : Int) (HBN.out n)).mono fun e w' h => ⟨by rw [h.1, T3.out, TK.out], h.2.symm⟩⟩
      have QS : Aside0 (∀ n, Calls Try.prog 42 #[.pointer (some ⟨bk, 0, none⟩), .int .i64 x, .int .i64 K] (wr.drewN n) fun e w' => e = .returned (.int .i64 i) ∧ w' = wr.drewN n) := ⟨fun n => (select_any (HVN.out n) x (K : Int) (by omega) (by omega) (by omega)).mono fun e w' h => ⟨by rw [h.1, T2.out], h.2.symm⟩⟩
      clear hx hK
      go_wp2
      go_quiet (first
        | (go_at_call 40; exact Calls.quiet_of_same (QA.out _))
        | (go_at_call 37; exact Calls.quiet_of_same (QR.out _))
        | (go_at_call 41; exact Calls.quiet_of_same (QRR.out _))
        | (go_at_call 42; exact Calls.quiet_of_same (QS.out _)))
      go_wp2
      go_roundw
      case rel => exact ⟨i + 1, by go_num, by omega, ⟨HBN.out _⟩, ⟨HVN.out _⟩⟩
      case measure => simp [intOf]; omega
    · have hin : i = l.length := by omega
      subst hin
      go_wp2_with (first
        | (go_at_call 40; (with_reducible refine (access_any HV.out _ (by omega)).mono ?_); rintro e w3 ⟨rfl, rfl⟩; first | rw [A1.out] | rw [A2.out])
        | (go_at_call 37; (with_reducible refine (rank_any HV.out _ _ (by omega)).mono ?_); rintro e w3 ⟨rfl, rfl⟩)
        | (go_at_call 41; (with_reducible refine (C3.out _ _ _ HB.out).mono ?_); rintro e w3 ⟨rfl, rfl⟩)
        | (go_at_call 42; (with_reducible refine (select_any HV.out _ _ (by omega) r_at_.1 r_at_.2).mono ?_); rintro e w3 ⟨rfl, rfl⟩)
        | (go_at_call 43; (with_reducible refine (C4.out _ _ _ HB.out).mono ?_); rintro e w3 ⟨rfl, rfl⟩)
        | (go_at_call 38; (with_reducible refine (known_w _).mono ?_); rintro e w3 ⟨rfl, hb⟩; have n1 := Aside0.mk (below_step HB.out hb); clear HB; have HB := n1; clear n1; clear hb))
      go_ret
      exact ⟨rfl, HB.out⟩
set_option maxRecDepth 100000 in
set_option maxHeartbeats 4000000 in
theorem waveTells_law (A : Option Addr) (c : Nat) (l : List Int) (wd v at_ : Int) (w : World)
    (hr : Kd.C (Kd.int .i64) w A l.length l) (hc : l.length ≤ c) (hmx : l.length ≤ maxLen) (hy : l.length * 8 ≤ 140737488351232) (hw : ∀ x ∈ l, (Lit.int .i64 x).wf = true) (w_wd : (Lit.int .i64 wd).wf = true) (w_v : (Lit.int .i64 v).wf = true) (w_at_ : (Lit.int .i64 at_).wf = true):
    Calls Try.prog 11 #[.slice A l.length c, .int .i64 wd, .int .i64 v, .int .i64 at_] w fun e w' => e = .returned (.bool true) ∧ Below w.heap.size w w' := by
  by_cases h : 200 < l.length
  · clear hr hw
    go_enter Try.func11, Try.ntmps11
    go_wp2
    go_ret
    exact ⟨rfl, Below.refl _ _⟩
  · by_cases hm : May l wd
    · exact waveTells_in A c l wd v at_ w (by omega) hm hr hc hw (wf_i64 w_v) (wf_i64 w_at_)
    · have C1 := Aside0.mk (fun w1 hb => refMay (n := l.length) rfl A c wd w1 (Kd.C_below (w1 := w1) hr hb) (by omega) (rows_i64 hw))
      have C2 := Aside0.mk (new_bad A c l wd w hr hc (by omega) (rows_i64 hw) hm)
      have HD : Aside0 (decide (May l wd) = false) := ⟨by simp [hm]⟩
      have HM := Aside0.mk hm
      clear hm hr hw
      go_enter Try.func11, Try.ntmps11
      go_wp2_with (first
        | (go_at_call 35; (with_reducible refine (C2.out).mono ?_); rintro e w3 ⟨rfl, hb⟩; have HB := Aside0.mk hb; clear hb)
        | (go_at_call 34; (with_reducible refine (C1.out _ HB.out).mono ?_); rintro e w3 ⟨rfl, hb⟩; rw [HD.out]; have n1 := Aside0.mk (below_step HB.out hb); clear HB; have HB := n1; clear n1; clear hb)
        | (go_at_call 38; (with_reducible refine (known_w _).mono ?_); rintro e w3 ⟨rfl, hb⟩; have n1 := Aside0.mk (below_step HB.out hb); clear HB; have HB := n1; clear n1; clear hb))
      go_ret
      exact ⟨rfl, HB.out⟩
end Go.Proofs.Ytbcplleioklkaaa.Lw
