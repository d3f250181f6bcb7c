/- The laws of chapter 7 (triviumlaw7): known, and what is shared. -/
import Derived.Test.YtdijaobhijmknaaRefd
import Derived.Test.YtdijaobhijmknaaRefb
import Derived.Test.YtdijaobhijmknaaDist
set_option linter.unusedSimpArgs false
set_option linter.unusedVariables false
namespace Go.Proofs.Ytdijaobhijmknaa.Lw
open Go.RowKit Go.Proofs.YtdijaobhijmknaaW.PrintWords Go.Proofs.YtdijaobhijmknaaW.PrintLast Go.Proofs.YtdijaobhijmknaaW.PrintMore Go.Proofs.Ytdijaobhijmknaa.Bs Go.Proofs.Ytdijaobhijmknaa.PM Go.Proofs.Ytdijaobhijmknaa.Pk Go.Proofs.Ytdijaobhijmknaa.WM Go.Proofs.Ytdijaobhijmknaa.SM Go.Proofs.Ytdijaobhijmknaa.Wv Go.Proofs.Ytdijaobhijmknaa.Rw Go.Proofs.Ytdijaobhijmknaa.Rb
attribute [local go_sem] max2_int min2_int max_two min_two

theorem IsWave.form {w : World} {v : Value} {l : List Int} (h : IsWave w v l) : ∃ b : Nat, v = .pointer (some ⟨b, 0, none⟩) := by
  obtain ⟨b, _, _, rfl, _⟩ := h; exact ⟨b, rfl⟩
theorem new_n {n : Nat} (A : Option Addr) (c : Nat) (l : List Int) (hn : l.length = n) (wd : Int) (w : World) (hr : Kd.C (Kd.int .i64) w A n l) (hc : n ≤ c) (hlen : n ≤ 9223372036854775807) (hwf : ∀ i : Nat, -9223372036854775808 ≤ rd l i ∧ rd l i ≤ 9223372036854775807) (hm : May l wd) :
    Calls Try.prog 35 #[.slice A n c, .int .i64 wd] w fun e w' => ∃ v, e = .returned (.tuple #[v, .int .i64 0]) ∧ IsWave w' v l ∧ Below w.heap.size w w' := by
  subst hn
  exact new_ok A c l wd w hr hc hlen hwf hm
theorem known375 : ∀ i : Nat, -9223372036854775808 ≤ rd [3, 7, 5] i ∧ rd [3, 7, 5] i ≤ 9223372036854775807 := fun i =>
  mem_range (lo := -9223372036854775808) (hi := 9223372036854775807) (by decide) (by omega) i
theorem known_next : nextI (cutI [3, 7, 5] 0 3) 4 = 5 := by decide +kernel
theorem known_at : (if (0 : Int) ≤ 1 ∧ (1 : Int) < ([3, 7, 5] : List Int).length then rd [3, 7, 5] 1 else -1) = 7 := by decide +kernel
theorem known_len : ((([3, 7, 5] : List Int).length : Nat) : Int) = 3 := rfl
theorem known_w (w : World) : Calls Try.prog 38 #[] w fun e w' => e = .returned (.bool true) ∧ Below w.heap.size w w' := by
  have C1 := Aside0.mk (new_n (n := 3) (some ⟨w.heap.size, 0, none⟩) 3 [3, 7, 5] rfl 3 (w.alloc (.cells #[.int .i64 3, .int .i64 7, .int .i64 5] 3)) (lit_C .i64 w 3 [3, 7, 5] (by simp)) (Nat.le_refl _) (by omega) known375 (by decide +kernel))
  go_enter Try.func38, Try.ntmps38
  go_wp2_with (first
    | (go_at_call 35; (with_reducible refine C1.out.mono ?_); rintro e w2 ⟨v, rfl, hv, hb⟩; obtain ⟨bk, rfl⟩ := IsWave.form hv; have HB := Aside0.mk (below_step (below_alloc (Below.refl w.heap.size w) _) hb); have HV := Aside0.mk hv; clear hv hb)
    | (go_at_call 44; (with_reducible refine (next_any HV.out 0 3 4 (by simp)).mono ?_); rintro e w3 ⟨rfl, rfl⟩; rw [known_next])
    | (go_at_call 40; (with_reducible refine (access_any HV.out 1 (by simp)).mono ?_); rintro e w3 ⟨rfl, rfl⟩; rw [known_at])
    | (go_at_call 39; (with_reducible refine (len_any HV.out).mono ?_); rintro e w3 ⟨rfl, rfl⟩; rw [known_len]))
  go_ret
  exact ⟨rfl, HB.out⟩
theorem same_same {n : Nat} {a : List Int} (hn : a.length = n) (A B : Option Addr) (c d : Nat) (w : World) (ha : Kd.C (Kd.int .i64) w A n a) (hb : Kd.C (Kd.int .i64) w B n a) (hlen : n ≤ 9223372036854775807) :
    Calls Try.prog 32 #[.slice A n c, .slice B n d] w fun e w' => e = .returned (.bool true) ∧ Below w.heap.size w w' :=
  (refSame hn hn A B c d w ha hb hlen hlen).mono (by rintro e w' ⟨rfl, h⟩; exact ⟨by simp, h⟩)
theorem may_range {l : List Int} {wd : Int} (h : May l wd) : ∀ x ∈ l, (0 : Int) ≤ x ∧ x ≤ 1048575 := by
  intro x hx
  obtain ⟨i, hi, rfl⟩ := List.getElem_of_mem hx
  have h1 := h.2.2.2 i hi
  rw [rd_nat] at h1
  simp only [List.getD_eq_getElem?_getD, List.getElem?_eq_getElem hi, Option.getD_some] at h1
  have h2 : (2 : Int) ^ wd.toNat ≤ 2 ^ 20 := by
    have h0 := h.1; have h3 := h.2.1
    have := Nat.pow_le_pow_right (n := 2) (by decide) (show wd.toNat ≤ 20 by omega)
    exact_mod_cast this
  omega
end Go.Proofs.Ytdijaobhijmknaa.Lw
