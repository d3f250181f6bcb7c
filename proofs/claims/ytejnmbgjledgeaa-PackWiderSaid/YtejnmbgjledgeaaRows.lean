/-
  No cell of these rows narrows 'for every input' (looked for: loops, veiled, ifaces, maps, wideKeys, modest, calm, conditions, laid).
  DERIVED. THE GIVEN ROWS OF THIS SEAT. 7 by the template 'for every input the law returns true; each argument reads behind the call as it read before'; 0 by the template 'total and deterministic' (their statements: YtejnmbgjledgeaaTotals.lean).
  GIVEN WITH THE SEED: the statements are not yours to turn. If you find one false, say at which input.
  Laid BY PROGRAM, IN A SANDBOX (cutbox-rows.mjs): the forced cells as the released guide's own fill.sh prints them over the translation 4ef66733fa74d744… (all of the seat's roots in one cut). By AI agents, Wed Nov 11 2026. No macro, syntax, notation, axiom, sorry.
-/
import Derived.Test.YtejnmbgjledgeaaChecked
import GoSem.Claim
import GoSem.ClaimJoined
import GoSem.ClaimMapViews
import Derived.JoinedTies
import Derived.KernelRfl
namespace Go.Proofs.Ytejnmbgjledgeaa
/- THE CELL 'sum', in the pinned program and in every row, IS THE sha256 OF THE DUMP (.gsa) THAT YtejnmbgjledgeaaProg.lean LOADS. Nothing in Lean hashes anything: it is a label: what it is worth is what the hold of that sum in a sandbox is worth. -/
noncomputable def Try.pinned : Pinned := { name := "ytejnmbgjledgeaa", sum := "4ef66733fa74d744b29ef27281169bdec4f2a393fd1a118eba4d7849b6398d07", checked := Try.checked }
namespace Rows
def none {H : Type} : Left H := { results := [], args := [] }

/-- 'triviumlaw2.PackWidths': WHATEVER THE INPUT: true; the input reads as it did. -/
def packWidthsSpec : ChangeSpec := { name := "packWidths", fn := fun _ => fun
  | [d1, d2] => { results := [.lit (.bool true)], args := [d1, d2] }
  | _ => none }
def packWidthsRow : OpenClaim := { program := "ytejnmbgjledgeaa", sum := "4ef66733fa74d744b29ef27281169bdec4f2a393fd1a118eba4d7849b6398d07", func := "trivium/triviumlaw2.PackWidths", spec := "packWidths", apart := false }
def PackWidthsSaid : Prop := packWidthsRow.holds Try.pinned (OpenSpec.ofChange packWidthsSpec)

/-- ITS FALSE NEIGHBOUR: 'it returns false'. Refute it at one input. -/
def packWidthsWrong : ChangeSpec := { name := "packWidths", fn := fun _ => fun
  | [d1, d2] => { results := [.lit (.bool false)], args := [d1, d2] }
  | _ => none }
def PackWidthsWrongFalsely : Prop := packWidthsRow.holds Try.pinned (OpenSpec.ofChange packWidthsWrong)

/-- 'triviumlaw2.PackBytes': WHATEVER THE INPUT: true; the input reads as it did. -/
def packBytesSpec : ChangeSpec := { name := "packBytes", fn := fun _ => fun
  | [d] => { results := [.lit (.bool true)], args := [d] }
  | _ => none }
def packBytesRow : OpenClaim := { program := "ytejnmbgjledgeaa", sum := "4ef66733fa74d744b29ef27281169bdec4f2a393fd1a118eba4d7849b6398d07", func := "trivium/triviumlaw2.PackBytes", spec := "packBytes", apart := false }
def PackBytesSaid : Prop := packBytesRow.holds Try.pinned (OpenSpec.ofChange packBytesSpec)

/-- ITS FALSE NEIGHBOUR: 'it returns false'. Refute it at one input. -/
def packBytesWrong : ChangeSpec := { name := "packBytes", fn := fun _ => fun
  | [d] => { results := [.lit (.bool false)], args := [d] }
  | _ => none }
def PackBytesWrongFalsely : Prop := packBytesRow.holds Try.pinned (OpenSpec.ofChange packBytesWrong)

/-- 'triviumlaw2.PackTells': WHATEVER THE INPUT: true; the input reads as it did. -/
def packTellsSpec : ChangeSpec := { name := "packTells", fn := fun _ => fun
  | [d1, d2, d3, d4, d5] => { results := [.lit (.bool true)], args := [d1, d2, d3, d4, d5] }
  | _ => none }
def packTellsRow : OpenClaim := { program := "ytejnmbgjledgeaa", sum := "4ef66733fa74d744b29ef27281169bdec4f2a393fd1a118eba4d7849b6398d07", func := "trivium/triviumlaw2.PackTells", spec := "packTells", apart := false }
def PackTellsSaid : Prop := packTellsRow.holds Try.pinned (OpenSpec.ofChange packTellsSpec)

/-- ITS FALSE NEIGHBOUR: 'it returns false'. Refute it at one input. -/
def packTellsWrong : ChangeSpec := { name := "packTells", fn := fun _ => fun
  | [d1, d2, d3, d4, d5] => { results := [.lit (.bool false)], args := [d1, d2, d3, d4, d5] }
  | _ => none }
def PackTellsWrongFalsely : Prop := packTellsRow.holds Try.pinned (OpenSpec.ofChange packTellsWrong)

/-- 'triviumlaw2.PackBack': WHATEVER THE INPUT: true; the input reads as it did. -/
def packBackSpec : ChangeSpec := { name := "packBack", fn := fun _ => fun
  | [d1, d2] => { results := [.lit (.bool true)], args := [d1, d2] }
  | _ => none }
def packBackRow : OpenClaim := { program := "ytejnmbgjledgeaa", sum := "4ef66733fa74d744b29ef27281169bdec4f2a393fd1a118eba4d7849b6398d07", func := "trivium/triviumlaw2.PackBack", spec := "packBack", apart := false }
def PackBackSaid : Prop := packBackRow.holds Try.pinned (OpenSpec.ofChange packBackSpec)

/-- ITS FALSE NEIGHBOUR: 'it returns false'. Refute it at one input. -/
def packBackWrong : ChangeSpec := { name := "packBack", fn := fun _ => fun
  | [d1, d2] => { results := [.lit (.bool false)], args := [d1, d2] }
  | _ => none }
def PackBackWrongFalsely : Prop := packBackRow.holds Try.pinned (OpenSpec.ofChange packBackWrong)

/-- 'triviumlaw2.PackOne': WHATEVER THE INPUT: true; the input reads as it did. -/
def packOneSpec : ChangeSpec := { name := "packOne", fn := fun _ => fun
  | [d1, d2, d3] => { results := [.lit (.bool true)], args := [d1, d2, d3] }
  | _ => none }
def packOneRow : OpenClaim := { program := "ytejnmbgjledgeaa", sum := "4ef66733fa74d744b29ef27281169bdec4f2a393fd1a118eba4d7849b6398d07", func := "trivium/triviumlaw2.PackOne", spec := "packOne", apart := false }
def PackOneSaid : Prop := packOneRow.holds Try.pinned (OpenSpec.ofChange packOneSpec)

/-- ITS FALSE NEIGHBOUR: 'it returns false'. Refute it at one input. -/
def packOneWrong : ChangeSpec := { name := "packOne", fn := fun _ => fun
  | [d1, d2, d3] => { results := [.lit (.bool false)], args := [d1, d2, d3] }
  | _ => none }
def PackOneWrongFalsely : Prop := packOneRow.holds Try.pinned (OpenSpec.ofChange packOneWrong)

/-- 'triviumlaw2.PackWider': WHATEVER THE INPUT: true; the input reads as it did. -/
def packWiderSpec : ChangeSpec := { name := "packWider", fn := fun _ => fun
  | [d1, d2, d3] => { results := [.lit (.bool true)], args := [d1, d2, d3] }
  | _ => none }
def packWiderRow : OpenClaim := { program := "ytejnmbgjledgeaa", sum := "4ef66733fa74d744b29ef27281169bdec4f2a393fd1a118eba4d7849b6398d07", func := "trivium/triviumlaw2.PackWider", spec := "packWider", apart := false }
def PackWiderSaid : Prop := packWiderRow.holds Try.pinned (OpenSpec.ofChange packWiderSpec)

/-- ITS FALSE NEIGHBOUR: 'it returns false'. Refute it at one input. -/
def packWiderWrong : ChangeSpec := { name := "packWider", fn := fun _ => fun
  | [d1, d2, d3] => { results := [.lit (.bool false)], args := [d1, d2, d3] }
  | _ => none }
def PackWiderWrongFalsely : Prop := packWiderRow.holds Try.pinned (OpenSpec.ofChange packWiderWrong)

/-- 'triviumlaw2.PackMany': WHATEVER THE INPUT: true; the input reads as it did. -/
def packManySpec : ChangeSpec := { name := "packMany", fn := fun _ => fun
  | [d1, d2] => { results := [.lit (.bool true)], args := [d1, d2] }
  | _ => none }
def packManyRow : OpenClaim := { program := "ytejnmbgjledgeaa", sum := "4ef66733fa74d744b29ef27281169bdec4f2a393fd1a118eba4d7849b6398d07", func := "trivium/triviumlaw2.PackMany", spec := "packMany", apart := false }
def PackManySaid : Prop := packManyRow.holds Try.pinned (OpenSpec.ofChange packManySpec)

/-- ITS FALSE NEIGHBOUR: 'it returns false'. Refute it at one input. -/
def packManyWrong : ChangeSpec := { name := "packMany", fn := fun _ => fun
  | [d1, d2] => { results := [.lit (.bool false)], args := [d1, d2] }
  | _ => none }
def PackManyWrongFalsely : Prop := packManyRow.holds Try.pinned (OpenSpec.ofChange packManyWrong)

/- THE SECOND FORM. 'bulk': how many values and letters a reading holds, each counted each time it is reached (what is shared counts as often as it is met; a slice's spare places count too). A statement '..UptoSaid' is the law's where the arguments, and the package variables that the reading takes, are together of bulk at most 1048576: NARROWER than '..Said'. Prove '..Said' where nothing that the law and all that it calls make is longer than what came in: it says more and counts as full. Else prove '..UptoSaid'. A law counts once. -/
mutual
def uptoBulk {H : Type} : DataW H → Nat
  | .lit (.string bytes) => bytes.length + 1
  | .lit _ => 1
  | .nil => 1
  | .ptr d => uptoBulk d + 1
  | .slice elems spare => uptoBulkAll elems + uptoBulkAll spare + 1
  | .agg parts => uptoBulkAll parts + 1
  | .iface _ d => uptoBulk d + 1
  | .map entries => uptoBulkEntries entries + 1
  | .held _ => 1
def uptoBulkAll {H : Type} : List (DataW H) → Nat
  | [] => 0
  | d :: r => uptoBulk d + uptoBulkAll r
def uptoBulkEntries {H : Type} : List (Lit × DataW H) → Nat
  | [] => 0
  | x :: r => uptoBulkEntry x + uptoBulkEntries r
def uptoBulkEntry {H : Type} : Lit × DataW H → Nat
  | (.string bytes, d) => bytes.length + uptoBulk d + 1
  | (_, d) => uptoBulk d + 1
 end
def uptoSmall : (H : Type) → List (DataW H) → Bool := fun _ ds => decide (uptoBulkAll ds ≤ 1048576)
def OpenSpec.upto (s : _root_.Go.ChangeSpec) : _root_.Go.OpenSpec := { _root_.Go.OpenSpec.ofChange s with cond := some uptoSmall }

/-- 'triviumlaw2.PackWidths', WHERE WHAT IT READS IS OF BULK AT MOST 1048576: true; the input reads as it did. -/
def packWidthsUptoRow : OpenClaim := { program := "ytejnmbgjledgeaa", sum := "4ef66733fa74d744b29ef27281169bdec4f2a393fd1a118eba4d7849b6398d07", func := "trivium/triviumlaw2.PackWidths", spec := "packWidths", apart := false, narrowed := true }
def PackWidthsUptoSaid : Prop := packWidthsUptoRow.holds Try.pinned (OpenSpec.upto packWidthsSpec)

/-- 'triviumlaw2.PackBytes', WHERE WHAT IT READS IS OF BULK AT MOST 1048576: true; the input reads as it did. -/
def packBytesUptoRow : OpenClaim := { program := "ytejnmbgjledgeaa", sum := "4ef66733fa74d744b29ef27281169bdec4f2a393fd1a118eba4d7849b6398d07", func := "trivium/triviumlaw2.PackBytes", spec := "packBytes", apart := false, narrowed := true }
def PackBytesUptoSaid : Prop := packBytesUptoRow.holds Try.pinned (OpenSpec.upto packBytesSpec)

/-- 'triviumlaw2.PackTells', WHERE WHAT IT READS IS OF BULK AT MOST 1048576: true; the input reads as it did. -/
def packTellsUptoRow : OpenClaim := { program := "ytejnmbgjledgeaa", sum := "4ef66733fa74d744b29ef27281169bdec4f2a393fd1a118eba4d7849b6398d07", func := "trivium/triviumlaw2.PackTells", spec := "packTells", apart := false, narrowed := true }
def PackTellsUptoSaid : Prop := packTellsUptoRow.holds Try.pinned (OpenSpec.upto packTellsSpec)

/-- 'triviumlaw2.PackBack', WHERE WHAT IT READS IS OF BULK AT MOST 1048576: true; the input reads as it did. -/
def packBackUptoRow : OpenClaim := { program := "ytejnmbgjledgeaa", sum := "4ef66733fa74d744b29ef27281169bdec4f2a393fd1a118eba4d7849b6398d07", func := "trivium/triviumlaw2.PackBack", spec := "packBack", apart := false, narrowed := true }
def PackBackUptoSaid : Prop := packBackUptoRow.holds Try.pinned (OpenSpec.upto packBackSpec)

/-- 'triviumlaw2.PackOne', WHERE WHAT IT READS IS OF BULK AT MOST 1048576: true; the input reads as it did. -/
def packOneUptoRow : OpenClaim := { program := "ytejnmbgjledgeaa", sum := "4ef66733fa74d744b29ef27281169bdec4f2a393fd1a118eba4d7849b6398d07", func := "trivium/triviumlaw2.PackOne", spec := "packOne", apart := false, narrowed := true }
def PackOneUptoSaid : Prop := packOneUptoRow.holds Try.pinned (OpenSpec.upto packOneSpec)

/-- 'triviumlaw2.PackWider', WHERE WHAT IT READS IS OF BULK AT MOST 1048576: true; the input reads as it did. -/
def packWiderUptoRow : OpenClaim := { program := "ytejnmbgjledgeaa", sum := "4ef66733fa74d744b29ef27281169bdec4f2a393fd1a118eba4d7849b6398d07", func := "trivium/triviumlaw2.PackWider", spec := "packWider", apart := false, narrowed := true }
def PackWiderUptoSaid : Prop := packWiderUptoRow.holds Try.pinned (OpenSpec.upto packWiderSpec)

/-- 'triviumlaw2.PackMany', WHERE WHAT IT READS IS OF BULK AT MOST 1048576: true; the input reads as it did. -/
def packManyUptoRow : OpenClaim := { program := "ytejnmbgjledgeaa", sum := "4ef66733fa74d744b29ef27281169bdec4f2a393fd1a118eba4d7849b6398d07", func := "trivium/triviumlaw2.PackMany", spec := "packMany", apart := false, narrowed := true }
def PackManyUptoSaid : Prop := packManyUptoRow.holds Try.pinned (OpenSpec.upto packManySpec)

end Rows
end Go.Proofs.Ytejnmbgjledgeaa
