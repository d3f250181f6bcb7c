/- Equality of terms, as the program asks for it. -/
import Derived.Test.YtmenjcjpihpjjaaDoorTmOD
import Derived.Test.YtmenjcjpihpjjaaDoorWEqStruct
set_option linter.unusedSimpArgs false
set_option linter.unusedVariables false
namespace Go.Proofs.YtmenjcjpihpjjaaDoor.Tm
open Go Go.RowKit Go.Shelf Go.Proofs.YtmenjcjpihpjjaaDoorW.PrintWords

theorem eqTerm (d : Nat) (w : World) (x0 y0 : Int) (x1 y1 x2 y2 : ByteArray) :
    (Op.equalIn (d + 2) 24 (.agg #[.int .i64 x0, .string x1, .string x2]) (.agg #[.int .i64 y0, .string y1, .string y2])).run Tryd.prog w = .ok (x0 == y0 && (x1.toList == y1.toList && (x2.toList == y2.toList))) w := by
  refine eqA_of Tryd.underlying24 (by kernel_rfl) ?_
  refine eqf_cons (by rfl) (by go_simp; rfl) (by go_simp; rfl) (by go_simp) ?_
  refine eqf_cons (by rfl) (by go_simp; rfl) (by go_simp; rfl) (by go_simp) ?_
  exact eqf_last (by rfl) (by go_simp; rfl) (by go_simp; rfl) (by go_simp)
theorem str_eq (a b : ByteArray) : (a.toList == b.toList) = decide (a = b) := by
  by_cases h : a = b
  · subst h; simp
  · rw [decide_eq_false h, beq_eq_false_iff_ne]
    intro hh
    rw [ByteArray.toList_eq, ByteArray.toList_eq] at hh
    exact h (lst_inj hh)
theorem term_eq (w : World) (a b : Trm) : (Op.equalIn 10000 24 (.agg #[.int .i64 a.k, .string a.t, .string a.x]) (.agg #[.int .i64 b.k, .string b.t, .string b.x])).run Tryd.prog w = .ok (decide (a = b)) w := by
  rw [show 10000 = 9998 + 2 from rfl, eqTerm 9998 w a.k b.k a.t b.t a.x b.x]
  congr 1
  rw [str_eq, str_eq]
  obtain ⟨k, t, x⟩ := a
  obtain ⟨k', t', x'⟩ := b
  simp only [Trm.mk.injEq]
  rw [Bool.eq_iff_iff]
  simp
end Go.Proofs.YtmenjcjpihpjjaaDoor.Tm
