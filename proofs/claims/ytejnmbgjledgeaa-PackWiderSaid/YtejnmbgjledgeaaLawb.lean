/- The laws of chapter 2 (triviumlaw2), walked. -/
import Derived.Test.YtejnmbgjledgeaaRefc
set_option linter.unusedSimpArgs false
set_option linter.unusedVariables false
namespace Go.Proofs.Ytejnmbgjledgeaa.Lb
open Go.RowKit Go.Proofs.YtejnmbgjledgeaaW.PrintWords Go.Proofs.YtejnmbgjledgeaaW.PrintLast Go.Proofs.YtejnmbgjledgeaaW.PrintMore Go.Proofs.Ytejnmbgjledgeaa.Bs Go.Proofs.Ytejnmbgjledgeaa.PM Go.Proofs.Ytejnmbgjledgeaa.Pk Go.Proofs.Ytejnmbgjledgeaa.Rb
attribute [local go_sem] max2_int min2_int max_two min_two

theorem known_pack : packR [1, 2, 3] 3 = ([209, 0], 0) := by decide +kernel
theorem known_str : (strOfNums [209, 0]).toList = [209, 0] := by rw [Lib.strOfNums_toList]; rfl
theorem known_bl5 : bl 5 = 3 := by decide +kernel
theorem known_bl0 : bl 0 = 0 := by decide +kernel
theorem known123 : ∀ i : Nat, -9223372036854775808 ≤ rd [1, 2, 3] i ∧ rd [1, 2, 3] i ≤ 9223372036854775807 := fun i =>
  mem_range (lo := -9223372036854775808) (hi := 9223372036854775807) (by decide) (by omega) i
theorem known_any (w : World) : Calls Try.prog 12 #[] w fun e w' => e = .returned (.bool true) ∧ Below w.heap.size w w' := by
  have C1 := Aside0.mk (pack_n (n := 3) (l := [1, 2, 3]) rfl (some ⟨w.heap.size, 0, none⟩) 3 3 (w.alloc (.cells #[.int .i64 1, .int .i64 2, .int .i64 3] 3)) (lit_C .i64 w 3 [1, 2, 3] (by simp)) (Nat.le_refl _) (by omega) known123)
  go_enter Try.func12, Try.ntmps12
  go_wp2_with (first | (go_at_call 10; (with_reducible refine C1.out.mono ?_); rintro e w2 ⟨v, rfl, hv, hb⟩; rw [known_pack] at hv ⊢; obtain ⟨A2, c2, e2⟩ := Kd.R_slice hv; replace e2 : v = .slice A2 2 c2 := e2; subst e2; have S1 := Kd.C_string Try.underlying22 Try.underlying5 Try.underlying9 (c := c2) (reads_n hv).2.2; have HB2 := Aside0.mk (below_step (below_alloc (Below.refl _ _) _) hb); have HS := known_str; clear hv hb) | (go_at_call 11; refine (width_any _ _ (by omega) (by omega)).mono ?_; rintro e w3 ⟨rfl, rfl⟩; first | rw [known_bl5] | rw [known_bl0]))
  go_ret
  exact ⟨rfl, HB2.out⟩
end Go.Proofs.Ytejnmbgjledgeaa.Lb
