/-
  No cell of these rows narrows 'for every input' (looked for: loops, veiled, ifaces, maps, wideKeys, modest, calm, conditions, laid).
  DERIVED. THE GIVEN ROWS OF THIS SEAT. 9 by the template 'for every input the law returns true; each argument reads behind the call as it read before'; 0 by the template 'total and deterministic' (their statements: YtmenjcjpihpjjaaTotals.lean).
  GIVEN WITH THE SEED: the statements are not yours to turn. If you find one false, say at which input.
  Laid BY PROGRAM, IN A SANDBOX (cutbox-rows.mjs): the forced cells as the released guide's own fill.sh prints them over the translation 3ed4dc1d16860f2b… (all of the seat's roots in one cut). By AI agents, Wed Nov 11 2026. No macro, syntax, notation, axiom, sorry.
-/
import Derived.Test.YtmenjcjpihpjjaaChecked
import GoSem.Claim
import GoSem.ClaimJoined
import GoSem.ClaimMapViews
import Derived.JoinedTies
import Derived.KernelRfl
namespace Go.Proofs.Ytmenjcjpihpjjaa
/- THE CELL 'sum', in the pinned program and in every row, IS THE sha256 OF THE DUMP (.gsa) THAT YtmenjcjpihpjjaaProg.lean LOADS. Nothing in Lean hashes anything: it is a label: what it is worth is what the hold of that sum in a sandbox is worth. -/
noncomputable def Try.pinned : Pinned := { name := "ytmenjcjpihpjjaa", sum := "3ed4dc1d16860f2bc0fedf97b85846afea8a0883eb4c70f4b900258cefa60c1d", checked := Try.checked }
namespace Rows
def none {H : Type} : Left H := { results := [], args := [] }

/-- 'triviumlaw3.DoubleOps': WHATEVER THE INPUT: true; the input reads as it did. -/
def doubleOpsSpec : ChangeSpec := { name := "doubleOps", fn := fun _ => fun
  | [d1, d2] => { results := [.lit (.bool true)], args := [d1, d2] }
  | _ => none }
def doubleOpsRow : OpenClaim := { program := "ytmenjcjpihpjjaa", sum := "3ed4dc1d16860f2bc0fedf97b85846afea8a0883eb4c70f4b900258cefa60c1d", func := "trivium/triviumlaw3.DoubleOps", spec := "doubleOps", inPlace := ["math.Float64frombits", "math.Float64bits"], apart := false }
def DoubleOpsSaid : Prop := doubleOpsRow.holds Try.pinned (OpenSpec.ofChange doubleOpsSpec)

/-- ITS FALSE NEIGHBOUR: 'it returns false'. Refute it at one input. -/
def doubleOpsWrong : ChangeSpec := { name := "doubleOps", fn := fun _ => fun
  | [d1, d2] => { results := [.lit (.bool false)], args := [d1, d2] }
  | _ => none }
def DoubleOpsWrongFalsely : Prop := doubleOpsRow.holds Try.pinned (OpenSpec.ofChange doubleOpsWrong)

/-- 'triviumlaw3.DoubleWholes': WHATEVER THE INPUT: true; the input reads as it did. -/
def doubleWholesSpec : ChangeSpec := { name := "doubleWholes", fn := fun _ => fun
  | [d1, d2] => { results := [.lit (.bool true)], args := [d1, d2] }
  | _ => none }
def doubleWholesRow : OpenClaim := { program := "ytmenjcjpihpjjaa", sum := "3ed4dc1d16860f2bc0fedf97b85846afea8a0883eb4c70f4b900258cefa60c1d", func := "trivium/triviumlaw3.DoubleWholes", spec := "doubleWholes", inPlace := ["math.Float64frombits", "math.Float64bits"], recurses := true, apart := false }
def DoubleWholesSaid : Prop := doubleWholesRow.holds Try.pinned (OpenSpec.ofChange doubleWholesSpec)

/-- ITS FALSE NEIGHBOUR: 'it returns false'. Refute it at one input. -/
def doubleWholesWrong : ChangeSpec := { name := "doubleWholes", fn := fun _ => fun
  | [d1, d2] => { results := [.lit (.bool false)], args := [d1, d2] }
  | _ => none }
def DoubleWholesWrongFalsely : Prop := doubleWholesRow.holds Try.pinned (OpenSpec.ofChange doubleWholesWrong)

/-- 'triviumlaw3.DoubleBounds': WHATEVER THE INPUT: true; the input reads as it did. -/
def doubleBoundsSpec : ChangeSpec := { name := "doubleBounds", fn := fun _ => fun
  | [d1, d2, d3] => { results := [.lit (.bool true)], args := [d1, d2, d3] }
  | _ => none }
def doubleBoundsRow : OpenClaim := { program := "ytmenjcjpihpjjaa", sum := "3ed4dc1d16860f2bc0fedf97b85846afea8a0883eb4c70f4b900258cefa60c1d", func := "trivium/triviumlaw3.DoubleBounds", spec := "doubleBounds", inPlace := ["math.Float64frombits", "math.Float64bits"], recurses := true, apart := false }
def DoubleBoundsSaid : Prop := doubleBoundsRow.holds Try.pinned (OpenSpec.ofChange doubleBoundsSpec)

/-- ITS FALSE NEIGHBOUR: 'it returns false'. Refute it at one input. -/
def doubleBoundsWrong : ChangeSpec := { name := "doubleBounds", fn := fun _ => fun
  | [d1, d2, d3] => { results := [.lit (.bool false)], args := [d1, d2, d3] }
  | _ => none }
def DoubleBoundsWrongFalsely : Prop := doubleBoundsRow.holds Try.pinned (OpenSpec.ofChange doubleBoundsWrong)

/-- 'triviumlaw3.DoubleTens': WHATEVER THE INPUT: true; the input reads as it did. -/
def doubleTensSpec : ChangeSpec := { name := "doubleTens", fn := fun _ => fun
  | [d1, d2] => { results := [.lit (.bool true)], args := [d1, d2] }
  | _ => none }
def doubleTensRow : OpenClaim := { program := "ytmenjcjpihpjjaa", sum := "3ed4dc1d16860f2bc0fedf97b85846afea8a0883eb4c70f4b900258cefa60c1d", func := "trivium/triviumlaw3.DoubleTens", spec := "doubleTens", inPlace := ["math.Float64frombits", "math.Float64bits"], recurses := true, apart := false }
def DoubleTensSaid : Prop := doubleTensRow.holds Try.pinned (OpenSpec.ofChange doubleTensSpec)

/-- ITS FALSE NEIGHBOUR: 'it returns false'. Refute it at one input. -/
def doubleTensWrong : ChangeSpec := { name := "doubleTens", fn := fun _ => fun
  | [d1, d2] => { results := [.lit (.bool false)], args := [d1, d2] }
  | _ => none }
def DoubleTensWrongFalsely : Prop := doubleTensRow.holds Try.pinned (OpenSpec.ofChange doubleTensWrong)

/-- 'triviumlaw3.DoubleParses': WHATEVER THE INPUT: true; the input reads as it did. -/
def doubleParsesSpec : ChangeSpec := { name := "doubleParses", fn := fun _ => fun
  | [d] => { results := [.lit (.bool true)], args := [d] }
  | _ => none }
def doubleParsesRow : OpenClaim := { program := "ytmenjcjpihpjjaa", sum := "3ed4dc1d16860f2bc0fedf97b85846afea8a0883eb4c70f4b900258cefa60c1d", func := "trivium/triviumlaw3.DoubleParses", spec := "doubleParses", inPlace := ["math.Float64frombits", "math.Float64bits"], apart := false }
def DoubleParsesSaid : Prop := doubleParsesRow.holds Try.pinned (OpenSpec.ofChange doubleParsesSpec)

/-- ITS FALSE NEIGHBOUR: 'it returns false'. Refute it at one input. -/
def doubleParsesWrong : ChangeSpec := { name := "doubleParses", fn := fun _ => fun
  | [d] => { results := [.lit (.bool false)], args := [d] }
  | _ => none }
def DoubleParsesWrongFalsely : Prop := doubleParsesRow.holds Try.pinned (OpenSpec.ofChange doubleParsesWrong)

/-- 'triviumlaw3.DoubleWords': WHATEVER THE INPUT: true; the input reads as it did. -/
def doubleWordsSpec : ChangeSpec := { name := "doubleWords", fn := fun _ => fun
  | [d] => { results := [.lit (.bool true)], args := [d] }
  | _ => none }
def doubleWordsRow : OpenClaim := { program := "ytmenjcjpihpjjaa", sum := "3ed4dc1d16860f2bc0fedf97b85846afea8a0883eb4c70f4b900258cefa60c1d", func := "trivium/triviumlaw3.DoubleWords", spec := "doubleWords", inPlace := ["math.Float64frombits", "math.Float64bits"], apart := false }
def DoubleWordsSaid : Prop := doubleWordsRow.holds Try.pinned (OpenSpec.ofChange doubleWordsSpec)

/-- ITS FALSE NEIGHBOUR: 'it returns false'. Refute it at one input. -/
def doubleWordsWrong : ChangeSpec := { name := "doubleWords", fn := fun _ => fun
  | [d] => { results := [.lit (.bool false)], args := [d] }
  | _ => none }
def DoubleWordsWrongFalsely : Prop := doubleWordsRow.holds Try.pinned (OpenSpec.ofChange doubleWordsWrong)

/-- 'triviumlaw3.DoubleTells': WHATEVER THE INPUT: true; the input reads as it did. -/
def doubleTellsSpec : ChangeSpec := { name := "doubleTells", fn := fun _ => fun
  | [d1, d2, d3] => { results := [.lit (.bool true)], args := [d1, d2, d3] }
  | _ => none }
def doubleTellsRow : OpenClaim := { program := "ytmenjcjpihpjjaa", sum := "3ed4dc1d16860f2bc0fedf97b85846afea8a0883eb4c70f4b900258cefa60c1d", func := "trivium/triviumlaw3.DoubleTells", spec := "doubleTells", inPlace := ["math.Float64frombits", "math.Float64bits"], apart := false }
def DoubleTellsSaid : Prop := doubleTellsRow.holds Try.pinned (OpenSpec.ofChange doubleTellsSpec)

/-- ITS FALSE NEIGHBOUR: 'it returns false'. Refute it at one input. -/
def doubleTellsWrong : ChangeSpec := { name := "doubleTells", fn := fun _ => fun
  | [d1, d2, d3] => { results := [.lit (.bool false)], args := [d1, d2, d3] }
  | _ => none }
def DoubleTellsWrongFalsely : Prop := doubleTellsRow.holds Try.pinned (OpenSpec.ofChange doubleTellsWrong)

/-- 'triviumlaw3.DoubleOrders': WHATEVER THE INPUT: true; the input reads as it did. -/
def doubleOrdersSpec : ChangeSpec := { name := "doubleOrders", fn := fun _ => fun
  | [d1, d2, d3] => { results := [.lit (.bool true)], args := [d1, d2, d3] }
  | _ => none }
def doubleOrdersRow : OpenClaim := { program := "ytmenjcjpihpjjaa", sum := "3ed4dc1d16860f2bc0fedf97b85846afea8a0883eb4c70f4b900258cefa60c1d", func := "trivium/triviumlaw3.DoubleOrders", spec := "doubleOrders", inPlace := ["math.Float64frombits", "math.Float64bits"], apart := false }
def DoubleOrdersSaid : Prop := doubleOrdersRow.holds Try.pinned (OpenSpec.ofChange doubleOrdersSpec)

/-- ITS FALSE NEIGHBOUR: 'it returns false'. Refute it at one input. -/
def doubleOrdersWrong : ChangeSpec := { name := "doubleOrders", fn := fun _ => fun
  | [d1, d2, d3] => { results := [.lit (.bool false)], args := [d1, d2, d3] }
  | _ => none }
def DoubleOrdersWrongFalsely : Prop := doubleOrdersRow.holds Try.pinned (OpenSpec.ofChange doubleOrdersWrong)

/-- 'triviumlaw3.DoubleSigns': WHATEVER THE INPUT: true; the input reads as it did. -/
def doubleSignsSpec : ChangeSpec := { name := "doubleSigns", fn := fun _ => fun
  | [d1, d2] => { results := [.lit (.bool true)], args := [d1, d2] }
  | _ => none }
def doubleSignsRow : OpenClaim := { program := "ytmenjcjpihpjjaa", sum := "3ed4dc1d16860f2bc0fedf97b85846afea8a0883eb4c70f4b900258cefa60c1d", func := "trivium/triviumlaw3.DoubleSigns", spec := "doubleSigns", inPlace := ["math.Float64frombits", "math.Float64bits"], apart := false }
def DoubleSignsSaid : Prop := doubleSignsRow.holds Try.pinned (OpenSpec.ofChange doubleSignsSpec)

/-- ITS FALSE NEIGHBOUR: 'it returns false'. Refute it at one input. -/
def doubleSignsWrong : ChangeSpec := { name := "doubleSigns", fn := fun _ => fun
  | [d1, d2] => { results := [.lit (.bool false)], args := [d1, d2] }
  | _ => none }
def DoubleSignsWrongFalsely : Prop := doubleSignsRow.holds Try.pinned (OpenSpec.ofChange doubleSignsWrong)

/- THE SECOND FORM. 'bulk': how many values and letters a reading holds, each counted each time it is reached (what is shared counts as often as it is met; a slice's spare places count too). A statement '..UptoSaid' is the law's where the arguments, and the package variables that the reading takes, are together of bulk at most 1048576: NARROWER than '..Said'. Prove '..Said' where nothing that the law and all that it calls make is longer than what came in: it says more and counts as full. Else prove '..UptoSaid'. A law counts once. -/
mutual
def uptoBulk {H : Type} : DataW H → Nat
  | .lit (.string bytes) => bytes.length + 1
  | .lit _ => 1
  | .nil => 1
  | .ptr d => uptoBulk d + 1
  | .slice elems spare => uptoBulkAll elems + uptoBulkAll spare + 1
  | .agg parts => uptoBulkAll parts + 1
  | .iface _ d => uptoBulk d + 1
  | .map entries => uptoBulkEntries entries + 1
  | .held _ => 1
def uptoBulkAll {H : Type} : List (DataW H) → Nat
  | [] => 0
  | d :: r => uptoBulk d + uptoBulkAll r
def uptoBulkEntries {H : Type} : List (Lit × DataW H) → Nat
  | [] => 0
  | x :: r => uptoBulkEntry x + uptoBulkEntries r
def uptoBulkEntry {H : Type} : Lit × DataW H → Nat
  | (.string bytes, d) => bytes.length + uptoBulk d + 1
  | (_, d) => uptoBulk d + 1
 end
def uptoSmall : (H : Type) → List (DataW H) → Bool := fun _ ds => decide (uptoBulkAll ds ≤ 1048576)
def OpenSpec.upto (s : _root_.Go.ChangeSpec) : _root_.Go.OpenSpec := { _root_.Go.OpenSpec.ofChange s with cond := some uptoSmall }

/-- 'triviumlaw3.DoubleOps', WHERE WHAT IT READS IS OF BULK AT MOST 1048576: true; the input reads as it did. -/
def doubleOpsUptoRow : OpenClaim := { program := "ytmenjcjpihpjjaa", sum := "3ed4dc1d16860f2bc0fedf97b85846afea8a0883eb4c70f4b900258cefa60c1d", func := "trivium/triviumlaw3.DoubleOps", spec := "doubleOps", inPlace := ["math.Float64frombits", "math.Float64bits"], apart := false, narrowed := true }
def DoubleOpsUptoSaid : Prop := doubleOpsUptoRow.holds Try.pinned (OpenSpec.upto doubleOpsSpec)

/-- 'triviumlaw3.DoubleWholes', WHERE WHAT IT READS IS OF BULK AT MOST 1048576: true; the input reads as it did. -/
def doubleWholesUptoRow : OpenClaim := { program := "ytmenjcjpihpjjaa", sum := "3ed4dc1d16860f2bc0fedf97b85846afea8a0883eb4c70f4b900258cefa60c1d", func := "trivium/triviumlaw3.DoubleWholes", spec := "doubleWholes", inPlace := ["math.Float64frombits", "math.Float64bits"], recurses := true, apart := false, narrowed := true }
def DoubleWholesUptoSaid : Prop := doubleWholesUptoRow.holds Try.pinned (OpenSpec.upto doubleWholesSpec)

/-- 'triviumlaw3.DoubleBounds', WHERE WHAT IT READS IS OF BULK AT MOST 1048576: true; the input reads as it did. -/
def doubleBoundsUptoRow : OpenClaim := { program := "ytmenjcjpihpjjaa", sum := "3ed4dc1d16860f2bc0fedf97b85846afea8a0883eb4c70f4b900258cefa60c1d", func := "trivium/triviumlaw3.DoubleBounds", spec := "doubleBounds", inPlace := ["math.Float64frombits", "math.Float64bits"], recurses := true, apart := false, narrowed := true }
def DoubleBoundsUptoSaid : Prop := doubleBoundsUptoRow.holds Try.pinned (OpenSpec.upto doubleBoundsSpec)

/-- 'triviumlaw3.DoubleTens', WHERE WHAT IT READS IS OF BULK AT MOST 1048576: true; the input reads as it did. -/
def doubleTensUptoRow : OpenClaim := { program := "ytmenjcjpihpjjaa", sum := "3ed4dc1d16860f2bc0fedf97b85846afea8a0883eb4c70f4b900258cefa60c1d", func := "trivium/triviumlaw3.DoubleTens", spec := "doubleTens", inPlace := ["math.Float64frombits", "math.Float64bits"], recurses := true, apart := false, narrowed := true }
def DoubleTensUptoSaid : Prop := doubleTensUptoRow.holds Try.pinned (OpenSpec.upto doubleTensSpec)

/-- 'triviumlaw3.DoubleParses', WHERE WHAT IT READS IS OF BULK AT MOST 1048576: true; the input reads as it did. -/
def doubleParsesUptoRow : OpenClaim := { program := "ytmenjcjpihpjjaa", sum := "3ed4dc1d16860f2bc0fedf97b85846afea8a0883eb4c70f4b900258cefa60c1d", func := "trivium/triviumlaw3.DoubleParses", spec := "doubleParses", inPlace := ["math.Float64frombits", "math.Float64bits"], apart := false, narrowed := true }
def DoubleParsesUptoSaid : Prop := doubleParsesUptoRow.holds Try.pinned (OpenSpec.upto doubleParsesSpec)

/-- 'triviumlaw3.DoubleWords', WHERE WHAT IT READS IS OF BULK AT MOST 1048576: true; the input reads as it did. -/
def doubleWordsUptoRow : OpenClaim := { program := "ytmenjcjpihpjjaa", sum := "3ed4dc1d16860f2bc0fedf97b85846afea8a0883eb4c70f4b900258cefa60c1d", func := "trivium/triviumlaw3.DoubleWords", spec := "doubleWords", inPlace := ["math.Float64frombits", "math.Float64bits"], apart := false, narrowed := true }
def DoubleWordsUptoSaid : Prop := doubleWordsUptoRow.holds Try.pinned (OpenSpec.upto doubleWordsSpec)

/-- 'triviumlaw3.DoubleTells', WHERE WHAT IT READS IS OF BULK AT MOST 1048576: true; the input reads as it did. -/
def doubleTellsUptoRow : OpenClaim := { program := "ytmenjcjpihpjjaa", sum := "3ed4dc1d16860f2bc0fedf97b85846afea8a0883eb4c70f4b900258cefa60c1d", func := "trivium/triviumlaw3.DoubleTells", spec := "doubleTells", inPlace := ["math.Float64frombits", "math.Float64bits"], apart := false, narrowed := true }
def DoubleTellsUptoSaid : Prop := doubleTellsUptoRow.holds Try.pinned (OpenSpec.upto doubleTellsSpec)

/-- 'triviumlaw3.DoubleOrders', WHERE WHAT IT READS IS OF BULK AT MOST 1048576: true; the input reads as it did. -/
def doubleOrdersUptoRow : OpenClaim := { program := "ytmenjcjpihpjjaa", sum := "3ed4dc1d16860f2bc0fedf97b85846afea8a0883eb4c70f4b900258cefa60c1d", func := "trivium/triviumlaw3.DoubleOrders", spec := "doubleOrders", inPlace := ["math.Float64frombits", "math.Float64bits"], apart := false, narrowed := true }
def DoubleOrdersUptoSaid : Prop := doubleOrdersUptoRow.holds Try.pinned (OpenSpec.upto doubleOrdersSpec)

/-- 'triviumlaw3.DoubleSigns', WHERE WHAT IT READS IS OF BULK AT MOST 1048576: true; the input reads as it did. -/
def doubleSignsUptoRow : OpenClaim := { program := "ytmenjcjpihpjjaa", sum := "3ed4dc1d16860f2bc0fedf97b85846afea8a0883eb4c70f4b900258cefa60c1d", func := "trivium/triviumlaw3.DoubleSigns", spec := "doubleSigns", inPlace := ["math.Float64frombits", "math.Float64bits"], apart := false, narrowed := true }
def DoubleSignsUptoSaid : Prop := doubleSignsUptoRow.holds Try.pinned (OpenSpec.upto doubleSignsSpec)

end Rows
end Go.Proofs.Ytmenjcjpihpjjaa
