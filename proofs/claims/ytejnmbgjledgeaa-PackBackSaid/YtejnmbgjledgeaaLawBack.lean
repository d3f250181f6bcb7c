/- The law PackBack, walked. -/
import Derived.Test.YtejnmbgjledgeaaLawTells
set_option linter.unusedSimpArgs false
set_option linter.unusedVariables false
namespace Go.Proofs.Ytejnmbgjledgeaa.Lb
open Go.RowKit Go.Proofs.YtejnmbgjledgeaaW.PrintWords Go.Proofs.YtejnmbgjledgeaaW.PrintLast Go.Proofs.YtejnmbgjledgeaaW.PrintMore Go.Proofs.Ytejnmbgjledgeaa.Bs Go.Proofs.Ytejnmbgjledgeaa.PM Go.Proofs.Ytejnmbgjledgeaa.Pk Go.Proofs.Ytejnmbgjledgeaa.Rb
attribute [local go_sem] max2_int min2_int max_two min_two

theorem back_out (A : Option Addr) (c : Nat) (l : List Int) (wd : Int) (w : World) (hr : Kd.C (Kd.int .i64) w A l.length l) (hl : l.length ≤ 9223372036854775807) (hw : ∀ x ∈ l, (Lit.int .i64 x).wf = true) (h : 500 < l.length ∨ (l.length ≤ 500 ∧ ¬ May l wd)) :
    Calls Try.prog 6 #[.slice A l.length c, .int .i64 wd] w fun e w' => e = .returned (.bool true) ∧ Below w.heap.size w w' := by
  rcases h with h | ⟨h, h2⟩
  · go_enter Try.func6, Try.ntmps6
    go_wp2
    go_ret
    exact ⟨rfl, Below.refl _ _⟩
  · have C1 := refMay (n := l.length) rfl A c wd w hr hl (rows_i64 hw)
    rw [decide_eq_false h2] at C1
    have C2 := Aside0.mk C1
    clear C1 h2 hr hw
    go_enter Try.func6, Try.ntmps6
    go_wp2_with (first | (go_at_call 18; (with_reducible refine C2.out.mono ?_); rintro e w2 ⟨rfl, hb⟩; have HB := Aside0.mk hb; clear hb))
    go_ret
    exact ⟨rfl, HB.out⟩
set_option maxHeartbeats 2000000 in
theorem back_in (A : Option Addr) (c : Nat) (l : List Int) (wd : Nat) (w : World) (hr : Kd.C (Kd.int .i64) w A l.length l) (hc : l.length ≤ c) (hl : l.length ≤ 500) (hw : ∀ x ∈ l, (Lit.int .i64 x).wf = true) (hm : May l wd) :
    Calls Try.prog 6 #[.slice A l.length c, .int .i64 wd] w fun e w' => e = .returned (.bool true) ∧ Below w.heap.size w w' := by
  have hwd : wd ≤ 20 := by have := hm.2.1; omega
  have C0 := refMay (n := l.length) rfl A c wd w hr (by omega) (rows_i64 hw)
  rw [decide_eq_true hm] at C0
  have C0 := Aside0.mk C0
  have C1 := Aside0.mk (fun w1 hb => pack_any A c l wd w1 (Kd.C_below (w1 := w1) hr hb) hc (by omega) (rows_i64 hw))
  rw [packR_may hm] at C1
  have hby := may_bytes hm
  have hpl := packed_length l wd
  have hub := unpackR_back hm
  have hsz := mul_bound (show l.length ≤ 1000 by omega) hwd
  have hszi : (l.length : Int) * wd ≤ 20000 := by rw [← Int.natCast_mul]; omega
  have hszj : 0 ≤ (l.length : Int) * wd := Int.mul_nonneg (by omega) (by omega)
  obtain ⟨P, hP⟩ : ∃ P, P = packed l wd := ⟨_, rfl⟩
  rw [← hP] at hby hpl hub C1
  have hpi : ((P.length : Int) != ((l.length : Int) * wd + 7) / 8) = false := by simp [hpl]
  have hmore : unpackR (P ++ [0]) l.length wd = ([], 2) := unpackR_len (by omega) hwd (by simp; omega)
  have hless : 0 < P.length → unpackR (P.take (P.length - 1)) l.length wd = ([], 2) := fun h => unpackR_len (by omega) hwd (by simp; omega)
  have hby1 : Bytes (P ++ [0]) := fun x hx => by
    rcases List.mem_append.1 hx with h | h
    · exact hby x h
    · simp at h; omega
  have hby2 : Bytes (P.take (P.length - 1)) := fun x hx => hby x (List.mem_of_mem_take hx)
  have HBY := Aside0.mk hby
  have HBY1 := Aside0.mk hby1
  have HBY2 := Aside0.mk hby2
  have HPL : Aside0 (P.length ≤ 2600) := ⟨by omega⟩
  have HUB := Aside0.mk hub
  have HMO := Aside0.mk hmore
  have HLE := Aside0.mk hless
  have HR := Aside0.mk hr
  have HB := Aside0.mk (Below.refl w.heap.size w)
  clear hP hr hw hm hby hub hmore hless hby1 hby2 hpl hsz
  go_enter Try.func6, Try.ntmps6
  go_upto_region 7 with (first
    | (go_at_call 18; (with_reducible refine C0.out.mono ?_); rintro e w2 ⟨rfl, hb⟩; have n1 := Aside0.mk (below_step HB.out hb); clear HB; have HB := n1; clear n1 hb)
    | (go_at_call 10; (with_reducible refine (C1.out _ HB.out).mono ?_); rintro e w3 ⟨v, rfl, hv, hb⟩; obtain ⟨A1, c1, e1⟩ := Kd.R_slice hv; subst e1; have n1 := Aside0.mk (below_step HB.out hb); clear HB; have HB := n1; clear n1; have H1 := Aside0.mk hv; have C2 := Aside0.mk (unpack_any (m := P.length) rfl A1 c1 l.length wd w3 (reads_n hv).2.2 (reads_n hv).2.1 HBY.out); clear hv hb)
    | (go_at_call 14; (with_reducible refine C2.out.mono ?_); rintro e w5 ⟨v, rfl, hv, hb⟩; rw [HUB.out] at hv ⊢; obtain ⟨A2, c2, e2⟩ := Kd.R_slice hv; subst e2; have n1 := Aside0.mk (below_step HB.out hb); clear HB; have HB := n1; clear n1; have n1 := Aside0.mk (Kd.R_below H1.out hb); clear H1; have H1 := n1; clear n1; have H2 := Aside0.mk hv; clear hv hb))
  have LR := Aside0.mk (lit_R .u8 w5 w5.heap.size 5 [] (Nat.le_refl _) (by simp))
  have HB5 := Aside0.mk (Below.refl w5.heap.size w5)
  go_upto_region 8 with (first
    | ((with_reducible refine gate_builtin (b := .append) (xs := #[.tmp 50, .tmp 51]) rfl ?_); at_builtin; go_loud (refine Kd.R_append_rows (Kd.int .u8) (Rr := (Kd.int .u8).K w5) (w0 := w5) w5.heap.size rfl (.tmp 50) (.tmp 51) 22 5 (.int .u8 0) 1 rfl Try.underlying22 info_byte rfl (by decide) (by omega) _ [] P _ _ _ (fun _ => True) (fun _ => False) rfl rfl ?aO ?aR (fun _ _ h => h) (fun _ h => h.elim) ?aF ?aB ?aS ?aL ?_); (case aO => exact LR.out); (case aR => exact Kd.C_below (reads_n H1.out).2.2 (below_alloc (Below.refl _ _) _)); (case aF => exact (fun _ _ => trivial)); (case aB => exact below_alloc HB5.out _); (case aS => simp); (case aL => have := HPL.out; simp; omega); intro v6 w6 ho hb hg hat; have H3 := Aside0.mk ho; have HB6 := Aside0.mk hb; clear ho hb hg hat)
    | ((with_reducible refine gate_builtin (b := .append) (xs := #[.tmp 52, .tmp 53]) rfl ?_); at_builtin; go_loud (refine Kd.R_append (Kd.int .u8) (w0 := w5) w5.heap.size rfl (.tmp 52) (.tmp 53) 22 5 (.int .u8 0) 1 rfl Try.underlying22 info_byte rfl (by decide) (by omega) v6 ([] ++ P) 0 [.int .u8 0] (fun _ => True) (fun _ => False) rfl rfl ?aP (fun _ hk => hk.elim) ?aF ?aO ?aB ?aS ?aL ?_); (case aP => exact rfl); (case aB => exact HB6.out); (case aF => exact (fun _ _ => trivial)); (case aO => exact H3.out); (case aS => exact HB6.out.size); (case aL => have := HPL.out; simp; omega); intro v7 w7 ho hb hg hat; have HB7 := Aside0.mk hb; rw [List.nil_append] at ho; obtain ⟨A3, c3, e3⟩ := Kd.R_slice ho; rw [List.length_append, List.length_singleton] at e3; subst e3; have C3 := Aside0.mk (unpack_any (m := P.length + 1) (b := P ++ [0]) (by simp) A3 c3 l.length wd w7 (reads_n ho).2.2 (reads_n ho).2.1 HBY1.out); clear ho hb hg hat)
    | (go_at_call 14; (with_reducible refine C3.out.mono ?_); rintro e w8 ⟨v, rfl, hv, hb⟩; rw [HMO.out] at hv ⊢; have n1 := Aside0.mk (HB7.out.trans (hb.mono HB7.out.size)); have n2 := Aside0.mk (below_step HB.out n1.out); have n3 := Aside0.mk (Kd.R_below H1.out n1.out); have n4 := Aside0.mk (Kd.R_below H2.out n1.out); clear HB H1 H2 hv hb; have HB := n2; have H1 := n3; have H2 := n4; clear n1 n2 n3 n4))
  have S3 := Aside0.mk (fun w1 hb => same_same (n := l.length) (a := l) rfl A2 A c2 c w1 (Kd.C_below (w1 := w1) (reads_n H2.out).2.2 hb) (Kd.C_below HR.out (below_step HB.out hb)) (by omega))
  have HBz := Aside0.mk (Below.refl w8.heap.size w8)
  go_upto_region 10 with (first
    | (go_at_call 16; (with_reducible refine (S3.out _ HBz.out).mono ?_); rintro e w9 ⟨rfl, hb⟩; have n2 := Aside0.mk (below_step HB.out hb); have n3 := Aside0.mk (Kd.R_below H1.out hb); clear HB H1 H2 hb; have HB := n2; have H1 := n3; clear n2 n3))
  obtain ⟨hp1, hp2, hp3⟩ := reads_n H1.out
  have hc1 : P.length ≤ c1 := hp2
  clear hp1 hp2
  have C4 := Aside0.mk (unpack_any (m := P.length - 1) (b := P.take (P.length - 1)) (by simp) A1 c1 l.length wd w9 (by have := Kd.C_take (m := P.length - 1) hp3 (by omega); rwa [List.length_take, Nat.min_eq_left (by omega)] at this) (by omega) HBY2.out)
  clear hp3
  by_cases h0 : 0 < P.length
  · have HL2 := Aside0.mk (HLE.out h0)
    have h1 : P.length ≤ 2600 := HPL.out
    have h2 : 1 ≤ (P.length : Int) := by omega
    have h3 : 0 ≤ (P.length : Int) - 1 := by omega
    have h4 : (P.length : Int) - 1 ≤ c1 := by omega
    have h5 : ((P.length : Int) - 1).toNat = P.length - 1 := by omega
    go_wp2_with (first
      | (go_at_call 14; (with_reducible refine C4.out.mono ?_); rintro e w10 ⟨v2, rfl, hv, hb⟩; rw [HL2.out]; have n2 := Aside0.mk (below_step HB.out hb); clear HB hv hb; have HB := n2; clear n2)
      | (go_at_call 12; (with_reducible refine (known_any _).mono ?_); rintro e w11 ⟨rfl, hb⟩; have n2 := Aside0.mk (below_step HB.out hb); clear HB hb; have HB := n2; clear n2))
    go_ret
    exact ⟨rfl, HB.out⟩
  · go_wp2_with (first
      | (go_at_call 12; (with_reducible refine (known_any _).mono ?_); rintro e w11 ⟨rfl, hb⟩; have n2 := Aside0.mk (below_step HB.out hb); clear HB hb; have HB := n2; clear n2))
    go_ret
    exact ⟨rfl, HB.out⟩
theorem packBack_law (A : Option Addr) (c : Nat) (l : List Int) (wd : Int) (w : World)
    (hr : Kd.C (Kd.int .i64) w A l.length l) (hc : l.length ≤ c) (hm : l.length ≤ maxLen) (hy : l.length * 8 ≤ 140737488351232) (hw : ∀ x ∈ l, (Lit.int .i64 x).wf = true) (hwd : (Lit.int .i64 wd).wf = true) :
    Calls Try.prog 6 #[.slice A l.length c, .int .i64 wd] w fun e w' => e = .returned (.bool true) ∧ Below w.heap.size w w' := by
  by_cases h : 500 < l.length ∨ (l.length ≤ 500 ∧ ¬ May l wd)
  · exact back_out A c l wd w hr (by omega) hw h
  · have hm : May l wd := Classical.byContradiction fun hm => h (.inr ⟨by omega, hm⟩)
    obtain ⟨v, rfl⟩ := Int.eq_ofNat_of_zero_le hm.1
    exact back_in A c l v w hr hc (by omega) hw hm
end Go.Proofs.Ytejnmbgjledgeaa.Lb
