/- The walks of Parse: a number without a sign. (under way) -/
import Derived.Test.YtmenjcjpihpjjaaDoorPlain
set_option linter.unusedSimpArgs false
set_option linter.unusedVariables false
namespace Go.Proofs.YtmenjcjpihpjjaaDoor.Fb
open Go Go.RowKit Go.Proofs.YtmenjcjpihpjjaaDoorW.PrintWords Go.Proofs.YtmenjcjpihpjjaaDoorW.PrintLast Go.Proofs.YtmenjcjpihpjjaaDoorW.PrintMore
attribute [local go_sem] max2_int min2_int max_two min_two

/-- The digits ahead, and what stands behind the point if there is one: digits behind it, the rest. -/
def pointL (rest : List UInt8) : List UInt8 × List UInt8 :=
  if Lib.hasPrefix rest [46] = true then ((Lib.trimPrefix rest [46]).take (digN (Lib.trimPrefix rest [46])), (Lib.trimPrefix rest [46]).drop (digN (Lib.trimPrefix rest [46]))) else ([], rest)
/-- A number without a sign; none: it is none. -/
def plainL (l : List UInt8) : Option Nat :=
  let p := pointL (l.drop (digN l))
  let x := expL p.2
  let all := l.take (digN l) ++ p.1
  let e := x.1 - p.1.length
  if x.2 = true ∧ all ≠ [] ∧ all.length ≤ 15 ∧ -22 ≤ e ∧ e ≤ 22 then scaleF (wholeI all) e else none
end Go.Proofs.YtmenjcjpihpjjaaDoor.Fb
