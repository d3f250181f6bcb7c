/- The walk of the laws' known answers, and of the law DoubleParses. -/
import Derived.Test.YtmenjcjpihpjjaaDoorRefr
set_option linter.unusedSimpArgs false
set_option linter.unusedVariables false
namespace Go.Proofs.YtmenjcjpihpjjaaDoor.Fb
open Go Go.RowKit Go.Proofs.YtmenjcjpihpjjaaDoorW.PrintWords Go.Proofs.YtmenjcjpihpjjaaDoorW.PrintLast Go.Proofs.YtmenjcjpihpjjaaDoorW.PrintMore
attribute [local go_sem] max2_int min2_int max_two min_two

theorem below_two {w w1 w2 : World} (h1 : Below w.heap.size w w1) (h2 : Below w1.heap.size w1 w2) : Below w.heap.size w w2 := h1.trans (h2.mono h1.size)
theorem ordK_self (a : Nat) : ordK a a = 0 := by
  unfold ordK
  cases key a with
  | none => rfl
  | some x => simp
theorem parseL_lt {l : List UInt8} {r : Nat} (h : parseL l = some r) : r < 18446744073709551616 := by
  unfold parseL at h
  split at h
  · injection h with h; omega
  · have key : ∀ v : Option Nat, (∀ f, v = some f → f ≤ 9218868437227405312) → v.map (fun f => if (signL l).2 = true then negF f else f) = some r → r < 18446744073709551616 := by
      intro v hv h
      cases v with
      | none => cases h
      | some f =>
        have h1 := hv f rfl
        simp only [Option.map_some, Option.some.injEq] at h
        split at h
        · rw [negF_add f (by omega)] at h; omega
        · omega
    refine key _ ?_ h
    intro f hf
    split at hf
    · injection hf with hf; omega
    · exact plain_le hf
end Go.Proofs.YtmenjcjpihpjjaaDoor.Fb
