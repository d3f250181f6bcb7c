/-
  No cell of these rows narrows 'for every input' (looked for: loops, veiled, ifaces, maps, wideKeys, modest, calm, conditions, laid).
  DERIVED. THE GIVEN ROWS OF THIS SEAT. 23 by the template 'for every input the law returns true; each argument reads behind the call as it read before'; 0 by the template 'total and deterministic' (their statements: YtdijaobhijmknaaTotals.lean).
  GIVEN WITH THE SEED: the statements are not yours to turn. If you find one false, say at which input.
  Laid BY PROGRAM, IN A SANDBOX (cutbox-rows.mjs): the forced cells as the released guide's own fill.sh prints them over the translation a3bb5ff0a54e7ad0… (all of the seat's roots in one cut). By AI agents, Wed Nov 11 2026. No macro, syntax, notation, axiom, sorry.
-/
import Derived.Test.YtdijaobhijmknaaChecked
import GoSem.Claim
import GoSem.ClaimJoined
import GoSem.ClaimMapViews
import Derived.JoinedTies
import Derived.KernelRfl
namespace Go.Proofs.Ytdijaobhijmknaa
/- THE CELL 'sum', in the pinned program and in every row, IS THE sha256 OF THE DUMP (.gsa) THAT YtdijaobhijmknaaProg.lean LOADS. Nothing in Lean hashes anything: it is a label: what it is worth is what the hold of that sum in a sandbox is worth. -/
noncomputable def Try.pinned : Pinned := { name := "ytdijaobhijmknaa", sum := "a3bb5ff0a54e7ad0f8aebf6b36cebac8bba1ae2047998b3129e2b97443546184", checked := Try.checked }
namespace Rows
def none {H : Type} : Left H := { results := [], args := [] }

/-- 'triviumlaw2.PackWidths': WHATEVER THE INPUT: true; the input reads as it did. -/
def packWidthsSpec : ChangeSpec := { name := "packWidths", fn := fun _ => fun
  | [d1, d2] => { results := [.lit (.bool true)], args := [d1, d2] }
  | _ => none }
def packWidthsRow : OpenClaim := { program := "ytdijaobhijmknaa", sum := "a3bb5ff0a54e7ad0f8aebf6b36cebac8bba1ae2047998b3129e2b97443546184", func := "trivium/triviumlaw2.PackWidths", spec := "packWidths", apart := false }
def PackWidthsSaid : Prop := packWidthsRow.holds Try.pinned (OpenSpec.ofChange packWidthsSpec)

/-- ITS FALSE NEIGHBOUR: 'it returns false'. Refute it at one input. -/
def packWidthsWrong : ChangeSpec := { name := "packWidths", fn := fun _ => fun
  | [d1, d2] => { results := [.lit (.bool false)], args := [d1, d2] }
  | _ => none }
def PackWidthsWrongFalsely : Prop := packWidthsRow.holds Try.pinned (OpenSpec.ofChange packWidthsWrong)

/-- 'triviumlaw2.PackBytes': WHATEVER THE INPUT: true; the input reads as it did. -/
def packBytesSpec : ChangeSpec := { name := "packBytes", fn := fun _ => fun
  | [d] => { results := [.lit (.bool true)], args := [d] }
  | _ => none }
def packBytesRow : OpenClaim := { program := "ytdijaobhijmknaa", sum := "a3bb5ff0a54e7ad0f8aebf6b36cebac8bba1ae2047998b3129e2b97443546184", func := "trivium/triviumlaw2.PackBytes", spec := "packBytes", apart := false }
def PackBytesSaid : Prop := packBytesRow.holds Try.pinned (OpenSpec.ofChange packBytesSpec)

/-- ITS FALSE NEIGHBOUR: 'it returns false'. Refute it at one input. -/
def packBytesWrong : ChangeSpec := { name := "packBytes", fn := fun _ => fun
  | [d] => { results := [.lit (.bool false)], args := [d] }
  | _ => none }
def PackBytesWrongFalsely : Prop := packBytesRow.holds Try.pinned (OpenSpec.ofChange packBytesWrong)

/-- 'triviumlaw2.PackTells': WHATEVER THE INPUT: true; the input reads as it did. -/
def packTellsSpec : ChangeSpec := { name := "packTells", fn := fun _ => fun
  | [d1, d2, d3, d4, d5] => { results := [.lit (.bool true)], args := [d1, d2, d3, d4, d5] }
  | _ => none }
def packTellsRow : OpenClaim := { program := "ytdijaobhijmknaa", sum := "a3bb5ff0a54e7ad0f8aebf6b36cebac8bba1ae2047998b3129e2b97443546184", func := "trivium/triviumlaw2.PackTells", spec := "packTells", apart := false }
def PackTellsSaid : Prop := packTellsRow.holds Try.pinned (OpenSpec.ofChange packTellsSpec)

/-- ITS FALSE NEIGHBOUR: 'it returns false'. Refute it at one input. -/
def packTellsWrong : ChangeSpec := { name := "packTells", fn := fun _ => fun
  | [d1, d2, d3, d4, d5] => { results := [.lit (.bool false)], args := [d1, d2, d3, d4, d5] }
  | _ => none }
def PackTellsWrongFalsely : Prop := packTellsRow.holds Try.pinned (OpenSpec.ofChange packTellsWrong)

/-- 'triviumlaw2.PackBack': WHATEVER THE INPUT: true; the input reads as it did. -/
def packBackSpec : ChangeSpec := { name := "packBack", fn := fun _ => fun
  | [d1, d2] => { results := [.lit (.bool true)], args := [d1, d2] }
  | _ => none }
def packBackRow : OpenClaim := { program := "ytdijaobhijmknaa", sum := "a3bb5ff0a54e7ad0f8aebf6b36cebac8bba1ae2047998b3129e2b97443546184", func := "trivium/triviumlaw2.PackBack", spec := "packBack", apart := false }
def PackBackSaid : Prop := packBackRow.holds Try.pinned (OpenSpec.ofChange packBackSpec)

/-- ITS FALSE NEIGHBOUR: 'it returns false'. Refute it at one input. -/
def packBackWrong : ChangeSpec := { name := "packBack", fn := fun _ => fun
  | [d1, d2] => { results := [.lit (.bool false)], args := [d1, d2] }
  | _ => none }
def PackBackWrongFalsely : Prop := packBackRow.holds Try.pinned (OpenSpec.ofChange packBackWrong)

/-- 'triviumlaw2.PackOne': WHATEVER THE INPUT: true; the input reads as it did. -/
def packOneSpec : ChangeSpec := { name := "packOne", fn := fun _ => fun
  | [d1, d2, d3] => { results := [.lit (.bool true)], args := [d1, d2, d3] }
  | _ => none }
def packOneRow : OpenClaim := { program := "ytdijaobhijmknaa", sum := "a3bb5ff0a54e7ad0f8aebf6b36cebac8bba1ae2047998b3129e2b97443546184", func := "trivium/triviumlaw2.PackOne", spec := "packOne", apart := false }
def PackOneSaid : Prop := packOneRow.holds Try.pinned (OpenSpec.ofChange packOneSpec)

/-- ITS FALSE NEIGHBOUR: 'it returns false'. Refute it at one input. -/
def packOneWrong : ChangeSpec := { name := "packOne", fn := fun _ => fun
  | [d1, d2, d3] => { results := [.lit (.bool false)], args := [d1, d2, d3] }
  | _ => none }
def PackOneWrongFalsely : Prop := packOneRow.holds Try.pinned (OpenSpec.ofChange packOneWrong)

/-- 'triviumlaw2.PackWider': WHATEVER THE INPUT: true; the input reads as it did. -/
def packWiderSpec : ChangeSpec := { name := "packWider", fn := fun _ => fun
  | [d1, d2, d3] => { results := [.lit (.bool true)], args := [d1, d2, d3] }
  | _ => none }
def packWiderRow : OpenClaim := { program := "ytdijaobhijmknaa", sum := "a3bb5ff0a54e7ad0f8aebf6b36cebac8bba1ae2047998b3129e2b97443546184", func := "trivium/triviumlaw2.PackWider", spec := "packWider", apart := false }
def PackWiderSaid : Prop := packWiderRow.holds Try.pinned (OpenSpec.ofChange packWiderSpec)

/-- ITS FALSE NEIGHBOUR: 'it returns false'. Refute it at one input. -/
def packWiderWrong : ChangeSpec := { name := "packWider", fn := fun _ => fun
  | [d1, d2, d3] => { results := [.lit (.bool false)], args := [d1, d2, d3] }
  | _ => none }
def PackWiderWrongFalsely : Prop := packWiderRow.holds Try.pinned (OpenSpec.ofChange packWiderWrong)

/-- 'triviumlaw2.PackMany': WHATEVER THE INPUT: true; the input reads as it did. -/
def packManySpec : ChangeSpec := { name := "packMany", fn := fun _ => fun
  | [d1, d2] => { results := [.lit (.bool true)], args := [d1, d2] }
  | _ => none }
def packManyRow : OpenClaim := { program := "ytdijaobhijmknaa", sum := "a3bb5ff0a54e7ad0f8aebf6b36cebac8bba1ae2047998b3129e2b97443546184", func := "trivium/triviumlaw2.PackMany", spec := "packMany", apart := false }
def PackManySaid : Prop := packManyRow.holds Try.pinned (OpenSpec.ofChange packManySpec)

/-- ITS FALSE NEIGHBOUR: 'it returns false'. Refute it at one input. -/
def packManyWrong : ChangeSpec := { name := "packMany", fn := fun _ => fun
  | [d1, d2] => { results := [.lit (.bool false)], args := [d1, d2] }
  | _ => none }
def PackManyWrongFalsely : Prop := packManyRow.holds Try.pinned (OpenSpec.ofChange packManyWrong)

/-- 'triviumlaw7.WaveParts': WHATEVER THE INPUT: true; the input reads as it did. -/
def wavePartsSpec : ChangeSpec := { name := "waveParts", fn := fun _ => fun
  | [d1, d2, d3, d4] => { results := [.lit (.bool true)], args := [d1, d2, d3, d4] }
  | _ => none }
def wavePartsRow : OpenClaim := { program := "ytdijaobhijmknaa", sum := "a3bb5ff0a54e7ad0f8aebf6b36cebac8bba1ae2047998b3129e2b97443546184", func := "trivium/triviumlaw7.WaveParts", spec := "waveParts", apart := false }
def WavePartsSaid : Prop := wavePartsRow.holds Try.pinned (OpenSpec.ofChange wavePartsSpec)

/-- ITS FALSE NEIGHBOUR: 'it returns false'. Refute it at one input. -/
def wavePartsWrong : ChangeSpec := { name := "waveParts", fn := fun _ => fun
  | [d1, d2, d3, d4] => { results := [.lit (.bool false)], args := [d1, d2, d3, d4] }
  | _ => none }
def WavePartsWrongFalsely : Prop := wavePartsRow.holds Try.pinned (OpenSpec.ofChange wavePartsWrong)

/-- 'triviumlaw7.WaveTells': WHATEVER THE INPUT: true; the input reads as it did. -/
def waveTellsSpec : ChangeSpec := { name := "waveTells", fn := fun _ => fun
  | [d1, d2, d3, d4] => { results := [.lit (.bool true)], args := [d1, d2, d3, d4] }
  | _ => none }
def waveTellsRow : OpenClaim := { program := "ytdijaobhijmknaa", sum := "a3bb5ff0a54e7ad0f8aebf6b36cebac8bba1ae2047998b3129e2b97443546184", func := "trivium/triviumlaw7.WaveTells", spec := "waveTells", apart := false }
def WaveTellsSaid : Prop := waveTellsRow.holds Try.pinned (OpenSpec.ofChange waveTellsSpec)

/-- ITS FALSE NEIGHBOUR: 'it returns false'. Refute it at one input. -/
def waveTellsWrong : ChangeSpec := { name := "waveTells", fn := fun _ => fun
  | [d1, d2, d3, d4] => { results := [.lit (.bool false)], args := [d1, d2, d3, d4] }
  | _ => none }
def WaveTellsWrongFalsely : Prop := waveTellsRow.holds Try.pinned (OpenSpec.ofChange waveTellsWrong)

/-- 'triviumlaw7.WaveSame': WHATEVER THE INPUT: true; the input reads as it did. -/
def waveSameSpec : ChangeSpec := { name := "waveSame", fn := fun _ => fun
  | [d1, d2, d3] => { results := [.lit (.bool true)], args := [d1, d2, d3] }
  | _ => none }
def waveSameRow : OpenClaim := { program := "ytdijaobhijmknaa", sum := "a3bb5ff0a54e7ad0f8aebf6b36cebac8bba1ae2047998b3129e2b97443546184", func := "trivium/triviumlaw7.WaveSame", spec := "waveSame", apart := false }
def WaveSameSaid : Prop := waveSameRow.holds Try.pinned (OpenSpec.ofChange waveSameSpec)

/-- ITS FALSE NEIGHBOUR: 'it returns false'. Refute it at one input. -/
def waveSameWrong : ChangeSpec := { name := "waveSame", fn := fun _ => fun
  | [d1, d2, d3] => { results := [.lit (.bool false)], args := [d1, d2, d3] }
  | _ => none }
def WaveSameWrongFalsely : Prop := waveSameRow.holds Try.pinned (OpenSpec.ofChange waveSameWrong)

/-- 'triviumlaw8.RingTells': WHATEVER THE INPUT: true; the input reads as it did. -/
def ringTellsSpec : ChangeSpec := { name := "ringTells", fn := fun _ => fun
  | [d1, d2, d3, d4] => { results := [.lit (.bool true)], args := [d1, d2, d3, d4] }
  | _ => none }
def ringTellsRow : OpenClaim := { program := "ytdijaobhijmknaa", sum := "a3bb5ff0a54e7ad0f8aebf6b36cebac8bba1ae2047998b3129e2b97443546184", func := "trivium/triviumlaw8.RingTells", spec := "ringTells", unfollowed := true, recurses := true, apart := false }
def RingTellsSaid : Prop := ringTellsRow.holds Try.pinned (OpenSpec.ofChange ringTellsSpec)

/-- ITS FALSE NEIGHBOUR: 'it returns false'. Refute it at one input. -/
def ringTellsWrong : ChangeSpec := { name := "ringTells", fn := fun _ => fun
  | [d1, d2, d3, d4] => { results := [.lit (.bool false)], args := [d1, d2, d3, d4] }
  | _ => none }
def RingTellsWrongFalsely : Prop := ringTellsRow.holds Try.pinned (OpenSpec.ofChange ringTellsWrong)

/-- 'triviumlaw8.RingEach': WHATEVER THE INPUT: true; the input reads as it did. -/
def ringEachSpec : ChangeSpec := { name := "ringEach", fn := fun _ => fun
  | [d] => { results := [.lit (.bool true)], args := [d] }
  | _ => none }
def ringEachRow : OpenClaim := { program := "ytdijaobhijmknaa", sum := "a3bb5ff0a54e7ad0f8aebf6b36cebac8bba1ae2047998b3129e2b97443546184", func := "trivium/triviumlaw8.RingEach", spec := "ringEach", unfollowed := true, recurses := true, apart := false }
def RingEachSaid : Prop := ringEachRow.holds Try.pinned (OpenSpec.ofChange ringEachSpec)

/-- ITS FALSE NEIGHBOUR: 'it returns false'. Refute it at one input. -/
def ringEachWrong : ChangeSpec := { name := "ringEach", fn := fun _ => fun
  | [d] => { results := [.lit (.bool false)], args := [d] }
  | _ => none }
def RingEachWrongFalsely : Prop := ringEachRow.holds Try.pinned (OpenSpec.ofChange ringEachWrong)

/-- 'triviumlaw8.RingNext': WHATEVER THE INPUT: true; the input reads as it did. -/
def ringNextSpec : ChangeSpec := { name := "ringNext", fn := fun _ => fun
  | [d1, d2, d3] => { results := [.lit (.bool true)], args := [d1, d2, d3] }
  | _ => none }
def ringNextRow : OpenClaim := { program := "ytdijaobhijmknaa", sum := "a3bb5ff0a54e7ad0f8aebf6b36cebac8bba1ae2047998b3129e2b97443546184", func := "trivium/triviumlaw8.RingNext", spec := "ringNext", unfollowed := true, recurses := true, apart := false }
def RingNextSaid : Prop := ringNextRow.holds Try.pinned (OpenSpec.ofChange ringNextSpec)

/-- ITS FALSE NEIGHBOUR: 'it returns false'. Refute it at one input. -/
def ringNextWrong : ChangeSpec := { name := "ringNext", fn := fun _ => fun
  | [d1, d2, d3] => { results := [.lit (.bool false)], args := [d1, d2, d3] }
  | _ => none }
def RingNextWrongFalsely : Prop := ringNextRow.holds Try.pinned (OpenSpec.ofChange ringNextWrong)

/-- 'triviumlaw8.RingParts': WHATEVER THE INPUT: true; the input reads as it did. -/
def ringPartsSpec : ChangeSpec := { name := "ringParts", fn := fun _ => fun
  | [d1, d2, d3] => { results := [.lit (.bool true)], args := [d1, d2, d3] }
  | _ => none }
def ringPartsRow : OpenClaim := { program := "ytdijaobhijmknaa", sum := "a3bb5ff0a54e7ad0f8aebf6b36cebac8bba1ae2047998b3129e2b97443546184", func := "trivium/triviumlaw8.RingParts", spec := "ringParts", unfollowed := true, recurses := true, apart := false }
def RingPartsSaid : Prop := ringPartsRow.holds Try.pinned (OpenSpec.ofChange ringPartsSpec)

/-- ITS FALSE NEIGHBOUR: 'it returns false'. Refute it at one input. -/
def ringPartsWrong : ChangeSpec := { name := "ringParts", fn := fun _ => fun
  | [d1, d2, d3] => { results := [.lit (.bool false)], args := [d1, d2, d3] }
  | _ => none }
def RingPartsWrongFalsely : Prop := ringPartsRow.holds Try.pinned (OpenSpec.ofChange ringPartsWrong)

/-- 'triviumlaw8.RingOfNothing': WHATEVER THE INPUT: true; the input reads as it did. -/
def ringOfNothingSpec : ChangeSpec := { name := "ringOfNothing", fn := fun _ => fun
  | [d1, d2, d3] => { results := [.lit (.bool true)], args := [d1, d2, d3] }
  | _ => none }
def ringOfNothingRow : OpenClaim := { program := "ytdijaobhijmknaa", sum := "a3bb5ff0a54e7ad0f8aebf6b36cebac8bba1ae2047998b3129e2b97443546184", func := "trivium/triviumlaw8.RingOfNothing", spec := "ringOfNothing", unfollowed := true, recurses := true, apart := false }
def RingOfNothingSaid : Prop := ringOfNothingRow.holds Try.pinned (OpenSpec.ofChange ringOfNothingSpec)

/-- ITS FALSE NEIGHBOUR: 'it returns false'. Refute it at one input. -/
def ringOfNothingWrong : ChangeSpec := { name := "ringOfNothing", fn := fun _ => fun
  | [d1, d2, d3] => { results := [.lit (.bool false)], args := [d1, d2, d3] }
  | _ => none }
def RingOfNothingWrongFalsely : Prop := ringOfNothingRow.holds Try.pinned (OpenSpec.ofChange ringOfNothingWrong)

/-- 'triviumlaw8.RingLess': WHATEVER THE INPUT: true; the input reads as it did. -/
def ringLessSpec : ChangeSpec := { name := "ringLess", fn := fun _ => fun
  | [d1, d2, d3] => { results := [.lit (.bool true)], args := [d1, d2, d3] }
  | _ => none }
def ringLessRow : OpenClaim := { program := "ytdijaobhijmknaa", sum := "a3bb5ff0a54e7ad0f8aebf6b36cebac8bba1ae2047998b3129e2b97443546184", func := "trivium/triviumlaw8.RingLess", spec := "ringLess", unfollowed := true, recurses := true, apart := false }
def RingLessSaid : Prop := ringLessRow.holds Try.pinned (OpenSpec.ofChange ringLessSpec)

/-- ITS FALSE NEIGHBOUR: 'it returns false'. Refute it at one input. -/
def ringLessWrong : ChangeSpec := { name := "ringLess", fn := fun _ => fun
  | [d1, d2, d3] => { results := [.lit (.bool false)], args := [d1, d2, d3] }
  | _ => none }
def RingLessWrongFalsely : Prop := ringLessRow.holds Try.pinned (OpenSpec.ofChange ringLessWrong)

/-- 'triviumlaw8.RingCols': WHATEVER THE INPUT: true; the input reads as it did. -/
def ringColsSpec : ChangeSpec := { name := "ringCols", fn := fun _ => fun
  | [d1, d2] => { results := [.lit (.bool true)], args := [d1, d2] }
  | _ => none }
def ringColsRow : OpenClaim := { program := "ytdijaobhijmknaa", sum := "a3bb5ff0a54e7ad0f8aebf6b36cebac8bba1ae2047998b3129e2b97443546184", func := "trivium/triviumlaw8.RingCols", spec := "ringCols", unfollowed := true, recurses := true, apart := false }
def RingColsSaid : Prop := ringColsRow.holds Try.pinned (OpenSpec.ofChange ringColsSpec)

/-- ITS FALSE NEIGHBOUR: 'it returns false'. Refute it at one input. -/
def ringColsWrong : ChangeSpec := { name := "ringCols", fn := fun _ => fun
  | [d1, d2] => { results := [.lit (.bool false)], args := [d1, d2] }
  | _ => none }
def RingColsWrongFalsely : Prop := ringColsRow.holds Try.pinned (OpenSpec.ofChange ringColsWrong)

/-- 'triviumlaw8.RingOwn': WHATEVER THE INPUT: true; the input reads as it did. -/
def ringOwnSpec : ChangeSpec := { name := "ringOwn", fn := fun _ => fun
  | [d] => { results := [.lit (.bool true)], args := [d] }
  | _ => none }
def ringOwnRow : OpenClaim := { program := "ytdijaobhijmknaa", sum := "a3bb5ff0a54e7ad0f8aebf6b36cebac8bba1ae2047998b3129e2b97443546184", func := "trivium/triviumlaw8.RingOwn", spec := "ringOwn", unfollowed := true, recurses := true, apart := false }
def RingOwnSaid : Prop := ringOwnRow.holds Try.pinned (OpenSpec.ofChange ringOwnSpec)

/-- ITS FALSE NEIGHBOUR: 'it returns false'. Refute it at one input. -/
def ringOwnWrong : ChangeSpec := { name := "ringOwn", fn := fun _ => fun
  | [d] => { results := [.lit (.bool false)], args := [d] }
  | _ => none }
def RingOwnWrongFalsely : Prop := ringOwnRow.holds Try.pinned (OpenSpec.ofChange ringOwnWrong)

/-- 'triviumlaw7.WaveRanges': WHATEVER THE INPUT: true; the input reads as it did. -/
def waveRangesSpec : ChangeSpec := { name := "waveRanges", fn := fun _ => fun
  | [d1, d2, d3, d4, d5, d6] => { results := [.lit (.bool true)], args := [d1, d2, d3, d4, d5, d6] }
  | _ => none }
def waveRangesRow : OpenClaim := { program := "ytdijaobhijmknaa", sum := "a3bb5ff0a54e7ad0f8aebf6b36cebac8bba1ae2047998b3129e2b97443546184", func := "trivium/triviumlaw7.WaveRanges", spec := "waveRanges", recurses := true, apart := false }
def WaveRangesSaid : Prop := waveRangesRow.holds Try.pinned (OpenSpec.ofChange waveRangesSpec)

/-- ITS FALSE NEIGHBOUR: 'it returns false'. Refute it at one input. -/
def waveRangesWrong : ChangeSpec := { name := "waveRanges", fn := fun _ => fun
  | [d1, d2, d3, d4, d5, d6] => { results := [.lit (.bool false)], args := [d1, d2, d3, d4, d5, d6] }
  | _ => none }
def WaveRangesWrongFalsely : Prop := waveRangesRow.holds Try.pinned (OpenSpec.ofChange waveRangesWrong)

/-- 'triviumlaw7.WaveNext': WHATEVER THE INPUT: true; the input reads as it did. -/
def waveNextSpec : ChangeSpec := { name := "waveNext", fn := fun _ => fun
  | [d1, d2, d3, d4] => { results := [.lit (.bool true)], args := [d1, d2, d3, d4] }
  | _ => none }
def waveNextRow : OpenClaim := { program := "ytdijaobhijmknaa", sum := "a3bb5ff0a54e7ad0f8aebf6b36cebac8bba1ae2047998b3129e2b97443546184", func := "trivium/triviumlaw7.WaveNext", spec := "waveNext", recurses := true, apart := false }
def WaveNextSaid : Prop := waveNextRow.holds Try.pinned (OpenSpec.ofChange waveNextSpec)

/-- ITS FALSE NEIGHBOUR: 'it returns false'. Refute it at one input. -/
def waveNextWrong : ChangeSpec := { name := "waveNext", fn := fun _ => fun
  | [d1, d2, d3, d4] => { results := [.lit (.bool false)], args := [d1, d2, d3, d4] }
  | _ => none }
def WaveNextWrongFalsely : Prop := waveNextRow.holds Try.pinned (OpenSpec.ofChange waveNextWrong)

/-- 'triviumlaw7.WaveEnds': WHATEVER THE INPUT: true; the input reads as it did. -/
def waveEndsSpec : ChangeSpec := { name := "waveEnds", fn := fun _ => fun
  | [d1, d2, d3, d4] => { results := [.lit (.bool true)], args := [d1, d2, d3, d4] }
  | _ => none }
def waveEndsRow : OpenClaim := { program := "ytdijaobhijmknaa", sum := "a3bb5ff0a54e7ad0f8aebf6b36cebac8bba1ae2047998b3129e2b97443546184", func := "trivium/triviumlaw7.WaveEnds", spec := "waveEnds", recurses := true, apart := false }
def WaveEndsSaid : Prop := waveEndsRow.holds Try.pinned (OpenSpec.ofChange waveEndsSpec)

/-- ITS FALSE NEIGHBOUR: 'it returns false'. Refute it at one input. -/
def waveEndsWrong : ChangeSpec := { name := "waveEnds", fn := fun _ => fun
  | [d1, d2, d3, d4] => { results := [.lit (.bool false)], args := [d1, d2, d3, d4] }
  | _ => none }
def WaveEndsWrongFalsely : Prop := waveEndsRow.holds Try.pinned (OpenSpec.ofChange waveEndsWrong)

/-- 'triviumlaw7.WaveWide': WHATEVER THE INPUT: true; the input reads as it did. -/
def waveWideSpec : ChangeSpec := { name := "waveWide", fn := fun _ => fun
  | [d1, d2, d3, d4, d5] => { results := [.lit (.bool true)], args := [d1, d2, d3, d4, d5] }
  | _ => none }
def waveWideRow : OpenClaim := { program := "ytdijaobhijmknaa", sum := "a3bb5ff0a54e7ad0f8aebf6b36cebac8bba1ae2047998b3129e2b97443546184", func := "trivium/triviumlaw7.WaveWide", spec := "waveWide", recurses := true, apart := false }
def WaveWideSaid : Prop := waveWideRow.holds Try.pinned (OpenSpec.ofChange waveWideSpec)

/-- ITS FALSE NEIGHBOUR: 'it returns false'. Refute it at one input. -/
def waveWideWrong : ChangeSpec := { name := "waveWide", fn := fun _ => fun
  | [d1, d2, d3, d4, d5] => { results := [.lit (.bool false)], args := [d1, d2, d3, d4, d5] }
  | _ => none }
def WaveWideWrongFalsely : Prop := waveWideRow.holds Try.pinned (OpenSpec.ofChange waveWideWrong)

/-- 'triviumlaw7.WaveOwn': WHATEVER THE INPUT: true; the input reads as it did. -/
def waveOwnSpec : ChangeSpec := { name := "waveOwn", fn := fun _ => fun
  | [d1, d2, d3, d4, d5] => { results := [.lit (.bool true)], args := [d1, d2, d3, d4, d5] }
  | _ => none }
def waveOwnRow : OpenClaim := { program := "ytdijaobhijmknaa", sum := "a3bb5ff0a54e7ad0f8aebf6b36cebac8bba1ae2047998b3129e2b97443546184", func := "trivium/triviumlaw7.WaveOwn", spec := "waveOwn", recurses := true, apart := false }
def WaveOwnSaid : Prop := waveOwnRow.holds Try.pinned (OpenSpec.ofChange waveOwnSpec)

/-- ITS FALSE NEIGHBOUR: 'it returns false'. Refute it at one input. -/
def waveOwnWrong : ChangeSpec := { name := "waveOwn", fn := fun _ => fun
  | [d1, d2, d3, d4, d5] => { results := [.lit (.bool false)], args := [d1, d2, d3, d4, d5] }
  | _ => none }
def WaveOwnWrongFalsely : Prop := waveOwnRow.holds Try.pinned (OpenSpec.ofChange waveOwnWrong)

/- THE SECOND FORM. 'bulk': how many values and letters a reading holds, each counted each time it is reached (what is shared counts as often as it is met; a slice's spare places count too). A statement '..UptoSaid' is the law's where the arguments, and the package variables that the reading takes, are together of bulk at most 1048576: NARROWER than '..Said'. Prove '..Said' where nothing that the law and all that it calls make is longer than what came in: it says more and counts as full. Else prove '..UptoSaid'. A law counts once. -/
mutual
def uptoBulk {H : Type} : DataW H → Nat
  | .lit (.string bytes) => bytes.length + 1
  | .lit _ => 1
  | .nil => 1
  | .ptr d => uptoBulk d + 1
  | .slice elems spare => uptoBulkAll elems + uptoBulkAll spare + 1
  | .agg parts => uptoBulkAll parts + 1
  | .iface _ d => uptoBulk d + 1
  | .map entries => uptoBulkEntries entries + 1
  | .held _ => 1
def uptoBulkAll {H : Type} : List (DataW H) → Nat
  | [] => 0
  | d :: r => uptoBulk d + uptoBulkAll r
def uptoBulkEntries {H : Type} : List (Lit × DataW H) → Nat
  | [] => 0
  | x :: r => uptoBulkEntry x + uptoBulkEntries r
def uptoBulkEntry {H : Type} : Lit × DataW H → Nat
  | (.string bytes, d) => bytes.length + uptoBulk d + 1
  | (_, d) => uptoBulk d + 1
 end
def uptoSmall : (H : Type) → List (DataW H) → Bool := fun _ ds => decide (uptoBulkAll ds ≤ 1048576)
def OpenSpec.upto (s : _root_.Go.ChangeSpec) : _root_.Go.OpenSpec := { _root_.Go.OpenSpec.ofChange s with cond := some uptoSmall }

/-- 'triviumlaw2.PackWidths', WHERE WHAT IT READS IS OF BULK AT MOST 1048576: true; the input reads as it did. -/
def packWidthsUptoRow : OpenClaim := { program := "ytdijaobhijmknaa", sum := "a3bb5ff0a54e7ad0f8aebf6b36cebac8bba1ae2047998b3129e2b97443546184", func := "trivium/triviumlaw2.PackWidths", spec := "packWidths", apart := false, narrowed := true }
def PackWidthsUptoSaid : Prop := packWidthsUptoRow.holds Try.pinned (OpenSpec.upto packWidthsSpec)

/-- 'triviumlaw2.PackBytes', WHERE WHAT IT READS IS OF BULK AT MOST 1048576: true; the input reads as it did. -/
def packBytesUptoRow : OpenClaim := { program := "ytdijaobhijmknaa", sum := "a3bb5ff0a54e7ad0f8aebf6b36cebac8bba1ae2047998b3129e2b97443546184", func := "trivium/triviumlaw2.PackBytes", spec := "packBytes", apart := false, narrowed := true }
def PackBytesUptoSaid : Prop := packBytesUptoRow.holds Try.pinned (OpenSpec.upto packBytesSpec)

/-- 'triviumlaw2.PackTells', WHERE WHAT IT READS IS OF BULK AT MOST 1048576: true; the input reads as it did. -/
def packTellsUptoRow : OpenClaim := { program := "ytdijaobhijmknaa", sum := "a3bb5ff0a54e7ad0f8aebf6b36cebac8bba1ae2047998b3129e2b97443546184", func := "trivium/triviumlaw2.PackTells", spec := "packTells", apart := false, narrowed := true }
def PackTellsUptoSaid : Prop := packTellsUptoRow.holds Try.pinned (OpenSpec.upto packTellsSpec)

/-- 'triviumlaw2.PackBack', WHERE WHAT IT READS IS OF BULK AT MOST 1048576: true; the input reads as it did. -/
def packBackUptoRow : OpenClaim := { program := "ytdijaobhijmknaa", sum := "a3bb5ff0a54e7ad0f8aebf6b36cebac8bba1ae2047998b3129e2b97443546184", func := "trivium/triviumlaw2.PackBack", spec := "packBack", apart := false, narrowed := true }
def PackBackUptoSaid : Prop := packBackUptoRow.holds Try.pinned (OpenSpec.upto packBackSpec)

/-- 'triviumlaw2.PackOne', WHERE WHAT IT READS IS OF BULK AT MOST 1048576: true; the input reads as it did. -/
def packOneUptoRow : OpenClaim := { program := "ytdijaobhijmknaa", sum := "a3bb5ff0a54e7ad0f8aebf6b36cebac8bba1ae2047998b3129e2b97443546184", func := "trivium/triviumlaw2.PackOne", spec := "packOne", apart := false, narrowed := true }
def PackOneUptoSaid : Prop := packOneUptoRow.holds Try.pinned (OpenSpec.upto packOneSpec)

/-- 'triviumlaw2.PackWider', WHERE WHAT IT READS IS OF BULK AT MOST 1048576: true; the input reads as it did. -/
def packWiderUptoRow : OpenClaim := { program := "ytdijaobhijmknaa", sum := "a3bb5ff0a54e7ad0f8aebf6b36cebac8bba1ae2047998b3129e2b97443546184", func := "trivium/triviumlaw2.PackWider", spec := "packWider", apart := false, narrowed := true }
def PackWiderUptoSaid : Prop := packWiderUptoRow.holds Try.pinned (OpenSpec.upto packWiderSpec)

/-- 'triviumlaw2.PackMany', WHERE WHAT IT READS IS OF BULK AT MOST 1048576: true; the input reads as it did. -/
def packManyUptoRow : OpenClaim := { program := "ytdijaobhijmknaa", sum := "a3bb5ff0a54e7ad0f8aebf6b36cebac8bba1ae2047998b3129e2b97443546184", func := "trivium/triviumlaw2.PackMany", spec := "packMany", apart := false, narrowed := true }
def PackManyUptoSaid : Prop := packManyUptoRow.holds Try.pinned (OpenSpec.upto packManySpec)

/-- 'triviumlaw7.WaveParts', WHERE WHAT IT READS IS OF BULK AT MOST 1048576: true; the input reads as it did. -/
def wavePartsUptoRow : OpenClaim := { program := "ytdijaobhijmknaa", sum := "a3bb5ff0a54e7ad0f8aebf6b36cebac8bba1ae2047998b3129e2b97443546184", func := "trivium/triviumlaw7.WaveParts", spec := "waveParts", apart := false, narrowed := true }
def WavePartsUptoSaid : Prop := wavePartsUptoRow.holds Try.pinned (OpenSpec.upto wavePartsSpec)

/-- 'triviumlaw7.WaveTells', WHERE WHAT IT READS IS OF BULK AT MOST 1048576: true; the input reads as it did. -/
def waveTellsUptoRow : OpenClaim := { program := "ytdijaobhijmknaa", sum := "a3bb5ff0a54e7ad0f8aebf6b36cebac8bba1ae2047998b3129e2b97443546184", func := "trivium/triviumlaw7.WaveTells", spec := "waveTells", apart := false, narrowed := true }
def WaveTellsUptoSaid : Prop := waveTellsUptoRow.holds Try.pinned (OpenSpec.upto waveTellsSpec)

/-- 'triviumlaw7.WaveSame', WHERE WHAT IT READS IS OF BULK AT MOST 1048576: true; the input reads as it did. -/
def waveSameUptoRow : OpenClaim := { program := "ytdijaobhijmknaa", sum := "a3bb5ff0a54e7ad0f8aebf6b36cebac8bba1ae2047998b3129e2b97443546184", func := "trivium/triviumlaw7.WaveSame", spec := "waveSame", apart := false, narrowed := true }
def WaveSameUptoSaid : Prop := waveSameUptoRow.holds Try.pinned (OpenSpec.upto waveSameSpec)

/-- 'triviumlaw8.RingTells', WHERE WHAT IT READS IS OF BULK AT MOST 1048576: true; the input reads as it did. -/
def ringTellsUptoRow : OpenClaim := { program := "ytdijaobhijmknaa", sum := "a3bb5ff0a54e7ad0f8aebf6b36cebac8bba1ae2047998b3129e2b97443546184", func := "trivium/triviumlaw8.RingTells", spec := "ringTells", unfollowed := true, recurses := true, apart := false, narrowed := true }
def RingTellsUptoSaid : Prop := ringTellsUptoRow.holds Try.pinned (OpenSpec.upto ringTellsSpec)

/-- 'triviumlaw8.RingEach', WHERE WHAT IT READS IS OF BULK AT MOST 1048576: true; the input reads as it did. -/
def ringEachUptoRow : OpenClaim := { program := "ytdijaobhijmknaa", sum := "a3bb5ff0a54e7ad0f8aebf6b36cebac8bba1ae2047998b3129e2b97443546184", func := "trivium/triviumlaw8.RingEach", spec := "ringEach", unfollowed := true, recurses := true, apart := false, narrowed := true }
def RingEachUptoSaid : Prop := ringEachUptoRow.holds Try.pinned (OpenSpec.upto ringEachSpec)

/-- 'triviumlaw8.RingNext', WHERE WHAT IT READS IS OF BULK AT MOST 1048576: true; the input reads as it did. -/
def ringNextUptoRow : OpenClaim := { program := "ytdijaobhijmknaa", sum := "a3bb5ff0a54e7ad0f8aebf6b36cebac8bba1ae2047998b3129e2b97443546184", func := "trivium/triviumlaw8.RingNext", spec := "ringNext", unfollowed := true, recurses := true, apart := false, narrowed := true }
def RingNextUptoSaid : Prop := ringNextUptoRow.holds Try.pinned (OpenSpec.upto ringNextSpec)

/-- 'triviumlaw8.RingParts', WHERE WHAT IT READS IS OF BULK AT MOST 1048576: true; the input reads as it did. -/
def ringPartsUptoRow : OpenClaim := { program := "ytdijaobhijmknaa", sum := "a3bb5ff0a54e7ad0f8aebf6b36cebac8bba1ae2047998b3129e2b97443546184", func := "trivium/triviumlaw8.RingParts", spec := "ringParts", unfollowed := true, recurses := true, apart := false, narrowed := true }
def RingPartsUptoSaid : Prop := ringPartsUptoRow.holds Try.pinned (OpenSpec.upto ringPartsSpec)

/-- 'triviumlaw8.RingOfNothing', WHERE WHAT IT READS IS OF BULK AT MOST 1048576: true; the input reads as it did. -/
def ringOfNothingUptoRow : OpenClaim := { program := "ytdijaobhijmknaa", sum := "a3bb5ff0a54e7ad0f8aebf6b36cebac8bba1ae2047998b3129e2b97443546184", func := "trivium/triviumlaw8.RingOfNothing", spec := "ringOfNothing", unfollowed := true, recurses := true, apart := false, narrowed := true }
def RingOfNothingUptoSaid : Prop := ringOfNothingUptoRow.holds Try.pinned (OpenSpec.upto ringOfNothingSpec)

/-- 'triviumlaw8.RingLess', WHERE WHAT IT READS IS OF BULK AT MOST 1048576: true; the input reads as it did. -/
def ringLessUptoRow : OpenClaim := { program := "ytdijaobhijmknaa", sum := "a3bb5ff0a54e7ad0f8aebf6b36cebac8bba1ae2047998b3129e2b97443546184", func := "trivium/triviumlaw8.RingLess", spec := "ringLess", unfollowed := true, recurses := true, apart := false, narrowed := true }
def RingLessUptoSaid : Prop := ringLessUptoRow.holds Try.pinned (OpenSpec.upto ringLessSpec)

/-- 'triviumlaw8.RingCols', WHERE WHAT IT READS IS OF BULK AT MOST 1048576: true; the input reads as it did. -/
def ringColsUptoRow : OpenClaim := { program := "ytdijaobhijmknaa", sum := "a3bb5ff0a54e7ad0f8aebf6b36cebac8bba1ae2047998b3129e2b97443546184", func := "trivium/triviumlaw8.RingCols", spec := "ringCols", unfollowed := true, recurses := true, apart := false, narrowed := true }
def RingColsUptoSaid : Prop := ringColsUptoRow.holds Try.pinned (OpenSpec.upto ringColsSpec)

/-- 'triviumlaw8.RingOwn', WHERE WHAT IT READS IS OF BULK AT MOST 1048576: true; the input reads as it did. -/
def ringOwnUptoRow : OpenClaim := { program := "ytdijaobhijmknaa", sum := "a3bb5ff0a54e7ad0f8aebf6b36cebac8bba1ae2047998b3129e2b97443546184", func := "trivium/triviumlaw8.RingOwn", spec := "ringOwn", unfollowed := true, recurses := true, apart := false, narrowed := true }
def RingOwnUptoSaid : Prop := ringOwnUptoRow.holds Try.pinned (OpenSpec.upto ringOwnSpec)

/-- 'triviumlaw7.WaveRanges', WHERE WHAT IT READS IS OF BULK AT MOST 1048576: true; the input reads as it did. -/
def waveRangesUptoRow : OpenClaim := { program := "ytdijaobhijmknaa", sum := "a3bb5ff0a54e7ad0f8aebf6b36cebac8bba1ae2047998b3129e2b97443546184", func := "trivium/triviumlaw7.WaveRanges", spec := "waveRanges", recurses := true, apart := false, narrowed := true }
def WaveRangesUptoSaid : Prop := waveRangesUptoRow.holds Try.pinned (OpenSpec.upto waveRangesSpec)

/-- 'triviumlaw7.WaveNext', WHERE WHAT IT READS IS OF BULK AT MOST 1048576: true; the input reads as it did. -/
def waveNextUptoRow : OpenClaim := { program := "ytdijaobhijmknaa", sum := "a3bb5ff0a54e7ad0f8aebf6b36cebac8bba1ae2047998b3129e2b97443546184", func := "trivium/triviumlaw7.WaveNext", spec := "waveNext", recurses := true, apart := false, narrowed := true }
def WaveNextUptoSaid : Prop := waveNextUptoRow.holds Try.pinned (OpenSpec.upto waveNextSpec)

/-- 'triviumlaw7.WaveEnds', WHERE WHAT IT READS IS OF BULK AT MOST 1048576: true; the input reads as it did. -/
def waveEndsUptoRow : OpenClaim := { program := "ytdijaobhijmknaa", sum := "a3bb5ff0a54e7ad0f8aebf6b36cebac8bba1ae2047998b3129e2b97443546184", func := "trivium/triviumlaw7.WaveEnds", spec := "waveEnds", recurses := true, apart := false, narrowed := true }
def WaveEndsUptoSaid : Prop := waveEndsUptoRow.holds Try.pinned (OpenSpec.upto waveEndsSpec)

/-- 'triviumlaw7.WaveWide', WHERE WHAT IT READS IS OF BULK AT MOST 1048576: true; the input reads as it did. -/
def waveWideUptoRow : OpenClaim := { program := "ytdijaobhijmknaa", sum := "a3bb5ff0a54e7ad0f8aebf6b36cebac8bba1ae2047998b3129e2b97443546184", func := "trivium/triviumlaw7.WaveWide", spec := "waveWide", recurses := true, apart := false, narrowed := true }
def WaveWideUptoSaid : Prop := waveWideUptoRow.holds Try.pinned (OpenSpec.upto waveWideSpec)

/-- 'triviumlaw7.WaveOwn', WHERE WHAT IT READS IS OF BULK AT MOST 1048576: true; the input reads as it did. -/
def waveOwnUptoRow : OpenClaim := { program := "ytdijaobhijmknaa", sum := "a3bb5ff0a54e7ad0f8aebf6b36cebac8bba1ae2047998b3129e2b97443546184", func := "trivium/triviumlaw7.WaveOwn", spec := "waveOwn", recurses := true, apart := false, narrowed := true }
def WaveOwnUptoSaid : Prop := waveOwnUptoRow.holds Try.pinned (OpenSpec.upto waveOwnSpec)

end Rows
end Go.Proofs.Ytdijaobhijmknaa
