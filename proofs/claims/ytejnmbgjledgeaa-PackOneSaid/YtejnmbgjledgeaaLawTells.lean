/- The law PackTells, walked. -/
import Derived.Test.YtejnmbgjledgeaaLawb
set_option linter.unusedSimpArgs false
set_option linter.unusedVariables false
namespace Go.Proofs.Ytejnmbgjledgeaa.Lb
open Go.RowKit Go.Proofs.YtejnmbgjledgeaaW.PrintWords Go.Proofs.YtejnmbgjledgeaaW.PrintLast Go.Proofs.YtejnmbgjledgeaaW.PrintMore Go.Proofs.Ytejnmbgjledgeaa.Bs Go.Proofs.Ytejnmbgjledgeaa.PM Go.Proofs.Ytejnmbgjledgeaa.Pk Go.Proofs.Ytejnmbgjledgeaa.Rb
attribute [local go_sem] max2_int min2_int max_two min_two

theorem bytes_of_wf {l : List Int} (h : ∀ x ∈ l, (Lit.int .u8 x).wf = true) : Bytes l := fun x hx => by
  have := wf_u8 (h x hx); omega
theorem same_same {n : Nat} {a : List Int} (hn : a.length = n) (A B : Option Addr) (c d : Nat) (w : World) (ha : Kd.C (Kd.int .i64) w A n a) (hb : Kd.C (Kd.int .i64) w B n a) (hlen : n ≤ 9223372036854775807) :
    Calls Try.prog 16 #[.slice A n c, .slice B n d] w fun e w' => e = .returned (.bool true) ∧ Below w.heap.size w w' :=
  (refSame hn hn A B c d w ha hb hlen hlen).mono (by rintro e w' ⟨rfl, h⟩; exact ⟨by simp, h⟩)
theorem tells_out (A : Option Addr) (c : Nat) (l : List Int) (wd : Int) (B : Option Addr) (d : Nat) (b : List Int) (n m : Int) (w : World) (hl : l.length ≤ 9223372036854775807) (hb : b.length ≤ 9223372036854775807) (h : 1100 < l.length ∨ (l.length ≤ 1100 ∧ 3000 < b.length)) :
    Calls Try.prog 5 #[.slice A l.length c, .int .i64 wd, .slice B b.length d, .int .i64 n, .int .i64 m] w fun e w' => e = .returned (.bool true) ∧ Below w.heap.size w w' := by
  rcases h with h | ⟨h, h2⟩
  all_goals
    go_enter Try.func5, Try.ntmps5
    go_wp2
    go_ret
    exact ⟨rfl, Below.refl _ _⟩
set_option maxHeartbeats 2000000 in
theorem tells_in (A : Option Addr) (c : Nat) (l : List Int) (wd : Int) (B : Option Addr) (d : Nat) (b : List Int) (n m : Int) (w : World) (hl : l.length ≤ 1100) (hb : b.length ≤ 3000)
    (hr : Kd.C (Kd.int .i64) w A l.length l) (hc : l.length ≤ c) (hw : ∀ x ∈ l, (Lit.int .i64 x).wf = true) (hr2 : Kd.C (Kd.int .u8) w B b.length b) (hc2 : b.length ≤ d) (hw2 : ∀ x ∈ b, (Lit.int .u8 x).wf = true) (h0 : -9223372036854775808 ≤ n) (h1 : n ≤ 9223372036854775807) :
    Calls Try.prog 5 #[.slice A l.length c, .int .i64 wd, .slice B b.length d, .int .i64 n, .int .i64 m] w fun e w' => e = .returned (.bool true) ∧ Below w.heap.size w w' := by
  have C1 := Aside0.mk (fun w1 hb => pack_any A c l wd w1 (Kd.C_below (w1 := w1) hr hb) hc (by omega) (rows_i64 hw))
  have C2 := Aside0.mk (fun w1 hb => refPack (n := l.length) rfl A c wd w1 (Kd.C_below (w1 := w1) hr hb) (by omega) (rows_i64 hw))
  have C3 := Aside0.mk (fun w1 hb => unpack_any (m := b.length) rfl B d n m w1 (Kd.C_below (w1 := w1) hr2 hb) hc2 (bytes_of_wf hw2))
  have C4 := Aside0.mk (fun w1 hb => refUnpack (m := b.length) rfl B d n m w1 (Kd.C_below (w1 := w1) hr2 hb) hc2 (bytes_of_wf hw2))
  have HB := Aside0.mk (Below.refl w.heap.size w)
  clear hr hw hr2 hw2
  obtain ⟨P, hP⟩ : ∃ P, P = packR l wd := ⟨_, rfl⟩
  obtain ⟨U, hU⟩ : ∃ U, U = unpackR b n m := ⟨_, rfl⟩
  rw [← hP] at C1 C2
  rw [← hU] at C3 C4
  have hul : U.1.length ≤ 1000 := by
    rw [hU]; unfold unpackR
    split
    · split
      · split
        · simp [unpacked]; omega
        · simp
      · simp
    · simp
  clear hP hU
  obtain ⟨p, pe⟩ := P
  obtain ⟨u, ue⟩ := U
  simp only at C1 C2 C3 C4 hul
  go_enter Try.func5, Try.ntmps5
  go_wp2_with (first
    | (go_at_call 10; (with_reducible refine (C1.out _ HB.out).mono ?_); rintro e w2 ⟨v, rfl, hv, hb⟩; obtain ⟨A1, c1, e1⟩ := Kd.R_slice hv; subst e1; have n1 := Aside0.mk (below_step HB.out hb); clear HB; have HB := n1; clear n1; have H1 := Aside0.mk hv; clear hv hb)
    | (go_at_call 13; (with_reducible refine (C2.out _ HB.out).mono ?_); rintro e w2 ⟨v, rfl, hv, hb⟩; obtain ⟨A2, c2, e2⟩ := Kd.R_slice hv; subst e2; have n1 := Aside0.mk (below_step HB.out hb); clear HB; have HB := n1; clear n1; have n1 := Aside0.mk (Kd.R_below H1.out hb); clear H1; have H1 := n1; clear n1; have H2 := Aside0.mk hv; clear hv hb)
    | (go_at_call 14; (with_reducible refine (C3.out _ HB.out).mono ?_); rintro e w2 ⟨v, rfl, hv, hb⟩; obtain ⟨A3, c3, e3⟩ := Kd.R_slice hv; subst e3; have n1 := Aside0.mk (below_step HB.out hb); clear HB; have HB := n1; clear n1; have n1 := Aside0.mk (Kd.R_below H1.out hb); clear H1; have H1 := n1; clear n1; have n1 := Aside0.mk (Kd.R_below H2.out hb); clear H2; have H2 := n1; clear n1; have H3 := Aside0.mk hv; clear hv hb)
    | (go_at_call 15; (with_reducible refine (C4.out _ HB.out).mono ?_); rintro e w2 ⟨v, rfl, hv, hb⟩; obtain ⟨A4, c4, e4⟩ := Kd.R_slice hv; subst e4; have n1 := Aside0.mk (below_step HB.out hb); clear HB; have HB := n1; clear n1; have n1 := Aside0.mk (Kd.R_below H1.out hb); clear H1; have H1 := n1; clear n1; have n1 := Aside0.mk (Kd.R_below H2.out hb); clear H2; have H2 := n1; clear n1; have S1 := Kd.C_string Try.underlying22 Try.underlying5 Try.underlying9 (c := c1) (reads_n H1.out).2.2; have S2 := Kd.C_string Try.underlying22 Try.underlying5 Try.underlying9 (c := c2) (reads_n H2.out).2.2; have S3 := Aside0.mk (same_same (n := u.length) (a := u) rfl A3 A4 c3 c4 _ (Kd.C_below (reads_n H3.out).2.2 hb) (reads_n hv).2.2 (by omega)); clear hv hb)
    | (go_at_call 16; (with_reducible refine S3.out.mono ?_); rintro e w2 ⟨rfl, hb⟩; have n1 := Aside0.mk (below_step HB.out hb); clear HB; have HB := n1; clear n1; clear hb)
    | (go_at_call 11; (with_reducible refine (width_any n _ h0 h1).mono ?_); rintro e w3 ⟨rfl, rfl⟩)
    | (go_at_call 17; (with_reducible refine (refWidth n _ h1).mono ?_); rintro e w3 ⟨rfl, rfl⟩)
    | (go_at_call 12; (with_reducible refine (known_any _).mono ?_); rintro e w3 ⟨rfl, hb⟩; have n1 := Aside0.mk (below_step HB.out hb); clear HB; have HB := n1; clear n1; clear hb))
  go_ret
  exact ⟨rfl, HB.out⟩
theorem packTells_law (A : Option Addr) (c : Nat) (l : List Int) (wd : Int) (B : Option Addr) (d : Nat) (b : List Int) (n m : Int) (w : World)
    (hr : Kd.C (Kd.int .i64) w A l.length l) (hc : l.length ≤ c) (hm : l.length ≤ maxLen) (hy : l.length * 8 ≤ 140737488351232) (hw : ∀ x ∈ l, (Lit.int .i64 x).wf = true) (hwd : (Lit.int .i64 wd).wf = true) (hr2 : Kd.C (Kd.int .u8) w B b.length b) (hc2 : b.length ≤ d) (hm2 : b.length ≤ maxLen) (hy2 : b.length * 1 ≤ 140737488351232) (hw2 : ∀ x ∈ b, (Lit.int .u8 x).wf = true) (h0 : (Lit.int .i64 n).wf = true) (h1 : (Lit.int .i64 m).wf = true) :
    Calls Try.prog 5 #[.slice A l.length c, .int .i64 wd, .slice B b.length d, .int .i64 n, .int .i64 m] w fun e w' => e = .returned (.bool true) ∧ Below w.heap.size w w' := by
  by_cases h : 1100 < l.length ∨ (l.length ≤ 1100 ∧ 3000 < b.length)
  · exact tells_out A c l wd B d b n m w (by omega) (by omega) h
  · exact tells_in A c l wd B d b n m w (by omega) (by omega) hr hc hw hr2 hc2 hw2 (wf_i64 h0).1 (wf_i64 h0).2
end Go.Proofs.Ytejnmbgjledgeaa.Lb
