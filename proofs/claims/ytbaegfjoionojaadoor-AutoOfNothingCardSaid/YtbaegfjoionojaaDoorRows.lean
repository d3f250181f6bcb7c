/-
  NARROWER THAN 'FOR EVERY INPUT', by the rows' own cells (each row's printed sentence says how): QueryBack: loops, laid · QueryBlanks: loops, laid · QueryDeep: laid · QueryBinds: laid · QueryCut: loops, laid · QueryPaths: laid · QueryTells: loops, laid · QueryOdd: laid · AutoTells: loops, laid · AutoFull: laid · AutoSteps: loops, laid · AutoTakes: loops, laid · AutoTurns: loops, laid · AutoMany: loops, laid · AutoNot: laid · AutoOfNothing: laid · AutoParts: loops, laid · AutoMaybe: loops, laid · QueryMay: loops, laid · QueryVars: laid.
  DERIVED. THE GIVEN ROWS OF THIS SEAT. 20 by the template 'for every input the law returns true; each argument reads behind the call as it read before'; 0 by the template 'total and deterministic' (their statements: YtbaegfjoionojaaDoorTotals.lean).
  GIVEN WITH THE SEED: the statements are not yours to turn. If you find one false, say at which input.
  Laid BY PROGRAM, IN A SANDBOX (cutbox-rows.mjs): the forced cells as the released guide's own fill.sh prints them over the translation eb2236f2e5c1757f… (all of the seat's roots in one cut). By AI agents, Wed Nov 11 2026. No macro, syntax, notation, axiom, sorry.
-/
import Derived.Test.YtbaegfjoionojaaDoorChecked
import GoSem.PinnedTables
import GoSem.Claim
import GoSem.ClaimJoined
import GoSem.ClaimMapViews
import Derived.JoinedTies
import Derived.KernelRfl
namespace Go.Proofs.YtbaegfjoionojaaDoor
/- THE CELL 'sum', in the pinned program and in every row, IS THE sha256 OF THE DUMP (.gsa) THAT YtbaegfjoionojaaDoorProg.lean LOADS. Nothing in Lean hashes anything: it is a label: what it is worth is what the hold of that sum in a sandbox is worth. -/
noncomputable def Tryd.pinned : Pinned := { name := "ytbaegfjoionojaadoor", sum := "eb2236f2e5c1757f399d07a85571e2125f649005d7f425cca1b9fbe15d39e729", checked := Tryd.checked }
namespace Rows
def none {H : Type} : Left H := { results := [], args := [] }

/- WHAT THE LISTED PACKAGE-LEVEL VARIABLES READ AS WHEN THE CALL BEGINS. Each datum BY PROGRAM (the guide's laid-datum.mjs) off the statement by which the dump's own 'gosem.cut.vars' lays the variable. In a bare row this is a premise. The card (YtbaegfjoionojaaDoorCards.lean) ties it to the program's text. -/
def laid_unicode_utf8_acceptRanges {H : Type} : DataW H := .agg [.agg [.lit (.int .u8 128), .lit (.int .u8 191)], .agg [.lit (.int .u8 160), .lit (.int .u8 191)], .agg [.lit (.int .u8 128), .lit (.int .u8 159)], .agg [.lit (.int .u8 144), .lit (.int .u8 191)], .agg [.lit (.int .u8 128), .lit (.int .u8 143)], .agg [.lit (.int .u8 0), .lit (.int .u8 0)], .agg [.lit (.int .u8 0), .lit (.int .u8 0)], .agg [.lit (.int .u8 0), .lit (.int .u8 0)], .agg [.lit (.int .u8 0), .lit (.int .u8 0)], .agg [.lit (.int .u8 0), .lit (.int .u8 0)], .agg [.lit (.int .u8 0), .lit (.int .u8 0)], .agg [.lit (.int .u8 0), .lit (.int .u8 0)], .agg [.lit (.int .u8 0), .lit (.int .u8 0)], .agg [.lit (.int .u8 0), .lit (.int .u8 0)], .agg [.lit (.int .u8 0), .lit (.int .u8 0)], .agg [.lit (.int .u8 0), .lit (.int .u8 0)]]
/-- One of Go's own tables, pinned by name: the form's constant. -/
def laid_unicode_utf8_first : DataW Unit := Go.Pinned.utf8First

/-- 'triviumlaw12.QueryBack': WHATEVER THE INPUT: true; the input reads as it did. -/
def queryBackSpec : ChangeSpec := { name := "queryBack", fn := fun _ => fun
  | [d] => { results := [.lit (.bool true)], args := [d] }
  | _ => none }
def queryBackRow : OpenClaim := { program := "ytbaegfjoionojaadoor", sum := "eb2236f2e5c1757f399d07a85571e2125f649005d7f425cca1b9fbe15d39e729", func := "trivium/triviumlaw12.QueryBack", spec := "queryBack", inPlace := ["internal/abi.NoEscape", "internal/bytealg.MakeNoZero", "internal/bytealg.IndexByteString", "internal/bytealg.IndexString"], unfollowed := true, recurses := true, named := ["unicode/utf8.first", "unicode/utf8.acceptRanges", "internal/bytealg.MaxLen"], loops := true, apart := false, laid := [("unicode/utf8.acceptRanges", laid_unicode_utf8_acceptRanges), ("unicode/utf8.first", laid_unicode_utf8_first)] }
def QueryBackSaid : Prop := queryBackRow.holds Tryd.pinned (OpenSpec.ofChange queryBackSpec)

/-- ITS FALSE NEIGHBOUR: 'it returns false'. Refute it at one input. -/
def queryBackWrong : ChangeSpec := { name := "queryBack", fn := fun _ => fun
  | [d] => { results := [.lit (.bool false)], args := [d] }
  | _ => none }
def QueryBackWrongFalsely : Prop := queryBackRow.holds Tryd.pinned (OpenSpec.ofChange queryBackWrong)

/-- 'triviumlaw12.QueryBlanks': WHATEVER THE INPUT: true; the input reads as it did. -/
def queryBlanksSpec : ChangeSpec := { name := "queryBlanks", fn := fun _ => fun
  | [d] => { results := [.lit (.bool true)], args := [d] }
  | _ => none }
def queryBlanksRow : OpenClaim := { program := "ytbaegfjoionojaadoor", sum := "eb2236f2e5c1757f399d07a85571e2125f649005d7f425cca1b9fbe15d39e729", func := "trivium/triviumlaw12.QueryBlanks", spec := "queryBlanks", inPlace := ["internal/bytealg.IndexByteString", "internal/bytealg.IndexString", "internal/abi.NoEscape", "internal/bytealg.MakeNoZero"], unfollowed := true, recurses := true, named := ["unicode/utf8.first", "unicode/utf8.acceptRanges", "internal/bytealg.MaxLen"], loops := true, apart := false, laid := [("unicode/utf8.acceptRanges", laid_unicode_utf8_acceptRanges), ("unicode/utf8.first", laid_unicode_utf8_first)] }
def QueryBlanksSaid : Prop := queryBlanksRow.holds Tryd.pinned (OpenSpec.ofChange queryBlanksSpec)

/-- ITS FALSE NEIGHBOUR: 'it returns false'. Refute it at one input. -/
def queryBlanksWrong : ChangeSpec := { name := "queryBlanks", fn := fun _ => fun
  | [d] => { results := [.lit (.bool false)], args := [d] }
  | _ => none }
def QueryBlanksWrongFalsely : Prop := queryBlanksRow.holds Tryd.pinned (OpenSpec.ofChange queryBlanksWrong)

/-- 'triviumlaw12.QueryDeep': WHATEVER THE INPUT: true; the input reads as it did. -/
def queryDeepSpec : ChangeSpec := { name := "queryDeep", fn := fun _ => fun
  | [d1, d2] => { results := [.lit (.bool true)], args := [d1, d2] }
  | _ => none }
def queryDeepRow : OpenClaim := { program := "ytbaegfjoionojaadoor", sum := "eb2236f2e5c1757f399d07a85571e2125f649005d7f425cca1b9fbe15d39e729", func := "trivium/triviumlaw12.QueryDeep", spec := "queryDeep", inPlace := ["internal/bytealg.IndexByteString", "internal/bytealg.IndexString", "internal/abi.NoEscape", "internal/bytealg.MakeNoZero"], unfollowed := true, recurses := true, named := ["internal/bytealg.MaxLen", "unicode/utf8.first", "unicode/utf8.acceptRanges"], apart := false, laid := [("unicode/utf8.acceptRanges", laid_unicode_utf8_acceptRanges), ("unicode/utf8.first", laid_unicode_utf8_first)] }
def QueryDeepSaid : Prop := queryDeepRow.holds Tryd.pinned (OpenSpec.ofChange queryDeepSpec)

/-- ITS FALSE NEIGHBOUR: 'it returns false'. Refute it at one input. -/
def queryDeepWrong : ChangeSpec := { name := "queryDeep", fn := fun _ => fun
  | [d1, d2] => { results := [.lit (.bool false)], args := [d1, d2] }
  | _ => none }
def QueryDeepWrongFalsely : Prop := queryDeepRow.holds Tryd.pinned (OpenSpec.ofChange queryDeepWrong)

/-- 'triviumlaw12.QueryBinds': WHATEVER THE INPUT: true; the input reads as it did. -/
def queryBindsSpec : ChangeSpec := { name := "queryBinds", fn := fun _ => fun
  | [d] => { results := [.lit (.bool true)], args := [d] }
  | _ => none }
def queryBindsRow : OpenClaim := { program := "ytbaegfjoionojaadoor", sum := "eb2236f2e5c1757f399d07a85571e2125f649005d7f425cca1b9fbe15d39e729", func := "trivium/triviumlaw12.QueryBinds", spec := "queryBinds", inPlace := ["internal/bytealg.IndexByteString", "internal/bytealg.IndexString", "internal/abi.NoEscape", "internal/bytealg.MakeNoZero"], unfollowed := true, recurses := true, named := ["internal/bytealg.MaxLen", "unicode/utf8.first", "unicode/utf8.acceptRanges"], apart := false, laid := [("unicode/utf8.acceptRanges", laid_unicode_utf8_acceptRanges), ("unicode/utf8.first", laid_unicode_utf8_first)] }
def QueryBindsSaid : Prop := queryBindsRow.holds Tryd.pinned (OpenSpec.ofChange queryBindsSpec)

/-- ITS FALSE NEIGHBOUR: 'it returns false'. Refute it at one input. -/
def queryBindsWrong : ChangeSpec := { name := "queryBinds", fn := fun _ => fun
  | [d] => { results := [.lit (.bool false)], args := [d] }
  | _ => none }
def QueryBindsWrongFalsely : Prop := queryBindsRow.holds Tryd.pinned (OpenSpec.ofChange queryBindsWrong)

/-- 'triviumlaw12.QueryCut': WHATEVER THE INPUT: true; the input reads as it did. -/
def queryCutSpec : ChangeSpec := { name := "queryCut", fn := fun _ => fun
  | [d1, d2, d3] => { results := [.lit (.bool true)], args := [d1, d2, d3] }
  | _ => none }
def queryCutRow : OpenClaim := { program := "ytbaegfjoionojaadoor", sum := "eb2236f2e5c1757f399d07a85571e2125f649005d7f425cca1b9fbe15d39e729", func := "trivium/triviumlaw12.QueryCut", spec := "queryCut", inPlace := ["internal/bytealg.IndexByteString", "internal/bytealg.IndexString", "internal/abi.NoEscape", "internal/bytealg.MakeNoZero"], unfollowed := true, recurses := true, named := ["unicode/utf8.first", "unicode/utf8.acceptRanges", "internal/bytealg.MaxLen"], loops := true, apart := false, laid := [("unicode/utf8.acceptRanges", laid_unicode_utf8_acceptRanges), ("unicode/utf8.first", laid_unicode_utf8_first)] }
def QueryCutSaid : Prop := queryCutRow.holds Tryd.pinned (OpenSpec.ofChange queryCutSpec)

/-- ITS FALSE NEIGHBOUR: 'it returns false'. Refute it at one input. -/
def queryCutWrong : ChangeSpec := { name := "queryCut", fn := fun _ => fun
  | [d1, d2, d3] => { results := [.lit (.bool false)], args := [d1, d2, d3] }
  | _ => none }
def QueryCutWrongFalsely : Prop := queryCutRow.holds Tryd.pinned (OpenSpec.ofChange queryCutWrong)

/-- 'triviumlaw12.QueryPaths': WHATEVER THE INPUT: true; the input reads as it did. -/
def queryPathsSpec : ChangeSpec := { name := "queryPaths", fn := fun _ => fun
  | [d] => { results := [.lit (.bool true)], args := [d] }
  | _ => none }
def queryPathsRow : OpenClaim := { program := "ytbaegfjoionojaadoor", sum := "eb2236f2e5c1757f399d07a85571e2125f649005d7f425cca1b9fbe15d39e729", func := "trivium/triviumlaw12.QueryPaths", spec := "queryPaths", inPlace := ["internal/bytealg.IndexByteString", "internal/bytealg.IndexString", "internal/abi.NoEscape", "internal/bytealg.MakeNoZero"], unfollowed := true, recurses := true, named := ["internal/bytealg.MaxLen", "unicode/utf8.first", "unicode/utf8.acceptRanges"], apart := false, laid := [("unicode/utf8.acceptRanges", laid_unicode_utf8_acceptRanges), ("unicode/utf8.first", laid_unicode_utf8_first)] }
def QueryPathsSaid : Prop := queryPathsRow.holds Tryd.pinned (OpenSpec.ofChange queryPathsSpec)

/-- ITS FALSE NEIGHBOUR: 'it returns false'. Refute it at one input. -/
def queryPathsWrong : ChangeSpec := { name := "queryPaths", fn := fun _ => fun
  | [d] => { results := [.lit (.bool false)], args := [d] }
  | _ => none }
def QueryPathsWrongFalsely : Prop := queryPathsRow.holds Tryd.pinned (OpenSpec.ofChange queryPathsWrong)

/-- 'triviumlaw12.QueryTells': WHATEVER THE INPUT: true; the input reads as it did. -/
def queryTellsSpec : ChangeSpec := { name := "queryTells", fn := fun _ => fun
  | [d1, d2] => { results := [.lit (.bool true)], args := [d1, d2] }
  | _ => none }
def queryTellsRow : OpenClaim := { program := "ytbaegfjoionojaadoor", sum := "eb2236f2e5c1757f399d07a85571e2125f649005d7f425cca1b9fbe15d39e729", func := "trivium/triviumlaw12.QueryTells", spec := "queryTells", inPlace := ["internal/bytealg.IndexByteString", "internal/bytealg.IndexString", "internal/abi.NoEscape", "internal/bytealg.MakeNoZero"], unfollowed := true, recurses := true, named := ["unicode/utf8.first", "unicode/utf8.acceptRanges", "internal/bytealg.MaxLen"], loops := true, apart := false, laid := [("unicode/utf8.acceptRanges", laid_unicode_utf8_acceptRanges), ("unicode/utf8.first", laid_unicode_utf8_first)] }
def QueryTellsSaid : Prop := queryTellsRow.holds Tryd.pinned (OpenSpec.ofChange queryTellsSpec)

/-- ITS FALSE NEIGHBOUR: 'it returns false'. Refute it at one input. -/
def queryTellsWrong : ChangeSpec := { name := "queryTells", fn := fun _ => fun
  | [d1, d2] => { results := [.lit (.bool false)], args := [d1, d2] }
  | _ => none }
def QueryTellsWrongFalsely : Prop := queryTellsRow.holds Tryd.pinned (OpenSpec.ofChange queryTellsWrong)

/-- 'triviumlaw12.QueryOdd': WHATEVER THE INPUT: true; the input reads as it did. -/
def queryOddSpec : ChangeSpec := { name := "queryOdd", fn := fun _ => fun
  | [d] => { results := [.lit (.bool true)], args := [d] }
  | _ => none }
def queryOddRow : OpenClaim := { program := "ytbaegfjoionojaadoor", sum := "eb2236f2e5c1757f399d07a85571e2125f649005d7f425cca1b9fbe15d39e729", func := "trivium/triviumlaw12.QueryOdd", spec := "queryOdd", inPlace := ["internal/bytealg.IndexByteString", "internal/bytealg.IndexString", "internal/abi.NoEscape", "internal/bytealg.MakeNoZero"], unfollowed := true, recurses := true, named := ["unicode/utf8.first", "unicode/utf8.acceptRanges", "internal/bytealg.MaxLen"], apart := false, laid := [("unicode/utf8.acceptRanges", laid_unicode_utf8_acceptRanges), ("unicode/utf8.first", laid_unicode_utf8_first)] }
def QueryOddSaid : Prop := queryOddRow.holds Tryd.pinned (OpenSpec.ofChange queryOddSpec)

/-- ITS FALSE NEIGHBOUR: 'it returns false'. Refute it at one input. -/
def queryOddWrong : ChangeSpec := { name := "queryOdd", fn := fun _ => fun
  | [d] => { results := [.lit (.bool false)], args := [d] }
  | _ => none }
def QueryOddWrongFalsely : Prop := queryOddRow.holds Tryd.pinned (OpenSpec.ofChange queryOddWrong)

/-- 'triviumlaw13.AutoTells': WHATEVER THE INPUT: true; the input reads as it did. -/
def autoTellsSpec : ChangeSpec := { name := "autoTells", fn := fun _ => fun
  | [d] => { results := [.lit (.bool true)], args := [d] }
  | _ => none }
def autoTellsRow : OpenClaim := { program := "ytbaegfjoionojaadoor", sum := "eb2236f2e5c1757f399d07a85571e2125f649005d7f425cca1b9fbe15d39e729", func := "trivium/triviumlaw13.AutoTells", spec := "autoTells", inPlace := ["internal/bytealg.IndexByteString", "internal/bytealg.IndexString"], unfollowed := true, recurses := true, named := ["unicode/utf8.first", "unicode/utf8.acceptRanges", "internal/bytealg.MaxLen"], loops := true, apart := false, laid := [("unicode/utf8.acceptRanges", laid_unicode_utf8_acceptRanges), ("unicode/utf8.first", laid_unicode_utf8_first)] }
def AutoTellsSaid : Prop := autoTellsRow.holds Tryd.pinned (OpenSpec.ofChange autoTellsSpec)

/-- ITS FALSE NEIGHBOUR: 'it returns false'. Refute it at one input. -/
def autoTellsWrong : ChangeSpec := { name := "autoTells", fn := fun _ => fun
  | [d] => { results := [.lit (.bool false)], args := [d] }
  | _ => none }
def AutoTellsWrongFalsely : Prop := autoTellsRow.holds Tryd.pinned (OpenSpec.ofChange autoTellsWrong)

/-- 'triviumlaw13.AutoFull': WHATEVER THE INPUT: true; the input reads as it did. -/
def autoFullSpec : ChangeSpec := { name := "autoFull", fn := fun _ => fun
  | [d] => { results := [.lit (.bool true)], args := [d] }
  | _ => none }
def autoFullRow : OpenClaim := { program := "ytbaegfjoionojaadoor", sum := "eb2236f2e5c1757f399d07a85571e2125f649005d7f425cca1b9fbe15d39e729", func := "trivium/triviumlaw13.AutoFull", spec := "autoFull", inPlace := ["internal/bytealg.IndexByteString", "internal/bytealg.IndexString"], unfollowed := true, recurses := true, named := ["unicode/utf8.first", "unicode/utf8.acceptRanges", "internal/bytealg.MaxLen"], apart := false, laid := [("unicode/utf8.acceptRanges", laid_unicode_utf8_acceptRanges), ("unicode/utf8.first", laid_unicode_utf8_first)] }
def AutoFullSaid : Prop := autoFullRow.holds Tryd.pinned (OpenSpec.ofChange autoFullSpec)

/-- ITS FALSE NEIGHBOUR: 'it returns false'. Refute it at one input. -/
def autoFullWrong : ChangeSpec := { name := "autoFull", fn := fun _ => fun
  | [d] => { results := [.lit (.bool false)], args := [d] }
  | _ => none }
def AutoFullWrongFalsely : Prop := autoFullRow.holds Tryd.pinned (OpenSpec.ofChange autoFullWrong)

/-- 'triviumlaw13.AutoSteps': WHATEVER THE INPUT: true; the input reads as it did. -/
def autoStepsSpec : ChangeSpec := { name := "autoSteps", fn := fun _ => fun
  | [d] => { results := [.lit (.bool true)], args := [d] }
  | _ => none }
def autoStepsRow : OpenClaim := { program := "ytbaegfjoionojaadoor", sum := "eb2236f2e5c1757f399d07a85571e2125f649005d7f425cca1b9fbe15d39e729", func := "trivium/triviumlaw13.AutoSteps", spec := "autoSteps", inPlace := ["internal/bytealg.IndexByteString", "internal/bytealg.IndexString"], unfollowed := true, recurses := true, named := ["unicode/utf8.first", "unicode/utf8.acceptRanges", "internal/bytealg.MaxLen"], loops := true, apart := false, laid := [("unicode/utf8.acceptRanges", laid_unicode_utf8_acceptRanges), ("unicode/utf8.first", laid_unicode_utf8_first)] }
def AutoStepsSaid : Prop := autoStepsRow.holds Tryd.pinned (OpenSpec.ofChange autoStepsSpec)

/-- ITS FALSE NEIGHBOUR: 'it returns false'. Refute it at one input. -/
def autoStepsWrong : ChangeSpec := { name := "autoSteps", fn := fun _ => fun
  | [d] => { results := [.lit (.bool false)], args := [d] }
  | _ => none }
def AutoStepsWrongFalsely : Prop := autoStepsRow.holds Tryd.pinned (OpenSpec.ofChange autoStepsWrong)

/-- 'triviumlaw13.AutoTakes': WHATEVER THE INPUT: true; the input reads as it did. -/
def autoTakesSpec : ChangeSpec := { name := "autoTakes", fn := fun _ => fun
  | [d1, d2] => { results := [.lit (.bool true)], args := [d1, d2] }
  | _ => none }
def autoTakesRow : OpenClaim := { program := "ytbaegfjoionojaadoor", sum := "eb2236f2e5c1757f399d07a85571e2125f649005d7f425cca1b9fbe15d39e729", func := "trivium/triviumlaw13.AutoTakes", spec := "autoTakes", inPlace := ["internal/bytealg.IndexByteString", "internal/bytealg.IndexString"], unfollowed := true, recurses := true, named := ["unicode/utf8.first", "unicode/utf8.acceptRanges", "internal/bytealg.MaxLen"], loops := true, apart := false, laid := [("unicode/utf8.acceptRanges", laid_unicode_utf8_acceptRanges), ("unicode/utf8.first", laid_unicode_utf8_first)] }
def AutoTakesSaid : Prop := autoTakesRow.holds Tryd.pinned (OpenSpec.ofChange autoTakesSpec)

/-- ITS FALSE NEIGHBOUR: 'it returns false'. Refute it at one input. -/
def autoTakesWrong : ChangeSpec := { name := "autoTakes", fn := fun _ => fun
  | [d1, d2] => { results := [.lit (.bool false)], args := [d1, d2] }
  | _ => none }
def AutoTakesWrongFalsely : Prop := autoTakesRow.holds Tryd.pinned (OpenSpec.ofChange autoTakesWrong)

/-- 'triviumlaw13.AutoTurns': WHATEVER THE INPUT: true; the input reads as it did. -/
def autoTurnsSpec : ChangeSpec := { name := "autoTurns", fn := fun _ => fun
  | [d1, d2] => { results := [.lit (.bool true)], args := [d1, d2] }
  | _ => none }
def autoTurnsRow : OpenClaim := { program := "ytbaegfjoionojaadoor", sum := "eb2236f2e5c1757f399d07a85571e2125f649005d7f425cca1b9fbe15d39e729", func := "trivium/triviumlaw13.AutoTurns", spec := "autoTurns", inPlace := ["internal/bytealg.IndexByteString", "internal/bytealg.IndexString"], unfollowed := true, recurses := true, named := ["unicode/utf8.first", "unicode/utf8.acceptRanges", "internal/bytealg.MaxLen"], loops := true, apart := false, laid := [("unicode/utf8.acceptRanges", laid_unicode_utf8_acceptRanges), ("unicode/utf8.first", laid_unicode_utf8_first)] }
def AutoTurnsSaid : Prop := autoTurnsRow.holds Tryd.pinned (OpenSpec.ofChange autoTurnsSpec)

/-- ITS FALSE NEIGHBOUR: 'it returns false'. Refute it at one input. -/
def autoTurnsWrong : ChangeSpec := { name := "autoTurns", fn := fun _ => fun
  | [d1, d2] => { results := [.lit (.bool false)], args := [d1, d2] }
  | _ => none }
def AutoTurnsWrongFalsely : Prop := autoTurnsRow.holds Tryd.pinned (OpenSpec.ofChange autoTurnsWrong)

/-- 'triviumlaw13.AutoMany': WHATEVER THE INPUT: true; the input reads as it did. -/
def autoManySpec : ChangeSpec := { name := "autoMany", fn := fun _ => fun
  | [d1, d2, d3] => { results := [.lit (.bool true)], args := [d1, d2, d3] }
  | _ => none }
def autoManyRow : OpenClaim := { program := "ytbaegfjoionojaadoor", sum := "eb2236f2e5c1757f399d07a85571e2125f649005d7f425cca1b9fbe15d39e729", func := "trivium/triviumlaw13.AutoMany", spec := "autoMany", inPlace := ["internal/bytealg.IndexByteString", "internal/bytealg.IndexString"], unfollowed := true, recurses := true, named := ["unicode/utf8.first", "unicode/utf8.acceptRanges", "internal/bytealg.MaxLen"], loops := true, apart := false, laid := [("unicode/utf8.acceptRanges", laid_unicode_utf8_acceptRanges), ("unicode/utf8.first", laid_unicode_utf8_first)] }
def AutoManySaid : Prop := autoManyRow.holds Tryd.pinned (OpenSpec.ofChange autoManySpec)

/-- ITS FALSE NEIGHBOUR: 'it returns false'. Refute it at one input. -/
def autoManyWrong : ChangeSpec := { name := "autoMany", fn := fun _ => fun
  | [d1, d2, d3] => { results := [.lit (.bool false)], args := [d1, d2, d3] }
  | _ => none }
def AutoManyWrongFalsely : Prop := autoManyRow.holds Tryd.pinned (OpenSpec.ofChange autoManyWrong)

/-- 'triviumlaw13.AutoNot': WHATEVER THE INPUT: true; the input reads as it did. -/
def autoNotSpec : ChangeSpec := { name := "autoNot", fn := fun _ => fun
  | [d1, d2, d3] => { results := [.lit (.bool true)], args := [d1, d2, d3] }
  | _ => none }
def autoNotRow : OpenClaim := { program := "ytbaegfjoionojaadoor", sum := "eb2236f2e5c1757f399d07a85571e2125f649005d7f425cca1b9fbe15d39e729", func := "trivium/triviumlaw13.AutoNot", spec := "autoNot", inPlace := ["internal/bytealg.IndexByteString", "internal/bytealg.IndexString"], unfollowed := true, recurses := true, named := ["unicode/utf8.first", "unicode/utf8.acceptRanges", "internal/bytealg.MaxLen"], apart := false, laid := [("unicode/utf8.acceptRanges", laid_unicode_utf8_acceptRanges), ("unicode/utf8.first", laid_unicode_utf8_first)] }
def AutoNotSaid : Prop := autoNotRow.holds Tryd.pinned (OpenSpec.ofChange autoNotSpec)

/-- ITS FALSE NEIGHBOUR: 'it returns false'. Refute it at one input. -/
def autoNotWrong : ChangeSpec := { name := "autoNot", fn := fun _ => fun
  | [d1, d2, d3] => { results := [.lit (.bool false)], args := [d1, d2, d3] }
  | _ => none }
def AutoNotWrongFalsely : Prop := autoNotRow.holds Tryd.pinned (OpenSpec.ofChange autoNotWrong)

/-- 'triviumlaw13.AutoOfNothing': WHATEVER THE INPUT: true; the input reads as it did. -/
def autoOfNothingSpec : ChangeSpec := { name := "autoOfNothing", fn := fun _ => fun
  | [d1, d2] => { results := [.lit (.bool true)], args := [d1, d2] }
  | _ => none }
def autoOfNothingRow : OpenClaim := { program := "ytbaegfjoionojaadoor", sum := "eb2236f2e5c1757f399d07a85571e2125f649005d7f425cca1b9fbe15d39e729", func := "trivium/triviumlaw13.AutoOfNothing", spec := "autoOfNothing", inPlace := ["internal/bytealg.IndexByteString", "internal/bytealg.IndexString"], unfollowed := true, recurses := true, named := ["unicode/utf8.first", "unicode/utf8.acceptRanges", "internal/bytealg.MaxLen"], apart := false, laid := [("unicode/utf8.acceptRanges", laid_unicode_utf8_acceptRanges), ("unicode/utf8.first", laid_unicode_utf8_first)] }
def AutoOfNothingSaid : Prop := autoOfNothingRow.holds Tryd.pinned (OpenSpec.ofChange autoOfNothingSpec)

/-- ITS FALSE NEIGHBOUR: 'it returns false'. Refute it at one input. -/
def autoOfNothingWrong : ChangeSpec := { name := "autoOfNothing", fn := fun _ => fun
  | [d1, d2] => { results := [.lit (.bool false)], args := [d1, d2] }
  | _ => none }
def AutoOfNothingWrongFalsely : Prop := autoOfNothingRow.holds Tryd.pinned (OpenSpec.ofChange autoOfNothingWrong)

/-- 'triviumlaw13.AutoParts': WHATEVER THE INPUT: true; the input reads as it did. -/
def autoPartsSpec : ChangeSpec := { name := "autoParts", fn := fun _ => fun
  | [d1, d2, d3, d4] => { results := [.lit (.bool true)], args := [d1, d2, d3, d4] }
  | _ => none }
def autoPartsRow : OpenClaim := { program := "ytbaegfjoionojaadoor", sum := "eb2236f2e5c1757f399d07a85571e2125f649005d7f425cca1b9fbe15d39e729", func := "trivium/triviumlaw13.AutoParts", spec := "autoParts", inPlace := ["internal/bytealg.IndexByteString", "internal/bytealg.IndexString"], unfollowed := true, recurses := true, named := ["unicode/utf8.first", "unicode/utf8.acceptRanges", "internal/bytealg.MaxLen"], loops := true, apart := false, laid := [("unicode/utf8.acceptRanges", laid_unicode_utf8_acceptRanges), ("unicode/utf8.first", laid_unicode_utf8_first)] }
def AutoPartsSaid : Prop := autoPartsRow.holds Tryd.pinned (OpenSpec.ofChange autoPartsSpec)

/-- ITS FALSE NEIGHBOUR: 'it returns false'. Refute it at one input. -/
def autoPartsWrong : ChangeSpec := { name := "autoParts", fn := fun _ => fun
  | [d1, d2, d3, d4] => { results := [.lit (.bool false)], args := [d1, d2, d3, d4] }
  | _ => none }
def AutoPartsWrongFalsely : Prop := autoPartsRow.holds Tryd.pinned (OpenSpec.ofChange autoPartsWrong)

/-- 'triviumlaw13.AutoMaybe': WHATEVER THE INPUT: true; the input reads as it did. -/
def autoMaybeSpec : ChangeSpec := { name := "autoMaybe", fn := fun _ => fun
  | [d1, d2] => { results := [.lit (.bool true)], args := [d1, d2] }
  | _ => none }
def autoMaybeRow : OpenClaim := { program := "ytbaegfjoionojaadoor", sum := "eb2236f2e5c1757f399d07a85571e2125f649005d7f425cca1b9fbe15d39e729", func := "trivium/triviumlaw13.AutoMaybe", spec := "autoMaybe", inPlace := ["internal/bytealg.IndexByteString", "internal/bytealg.IndexString"], unfollowed := true, recurses := true, named := ["unicode/utf8.first", "unicode/utf8.acceptRanges", "internal/bytealg.MaxLen"], loops := true, apart := false, laid := [("unicode/utf8.acceptRanges", laid_unicode_utf8_acceptRanges), ("unicode/utf8.first", laid_unicode_utf8_first)] }
def AutoMaybeSaid : Prop := autoMaybeRow.holds Tryd.pinned (OpenSpec.ofChange autoMaybeSpec)

/-- ITS FALSE NEIGHBOUR: 'it returns false'. Refute it at one input. -/
def autoMaybeWrong : ChangeSpec := { name := "autoMaybe", fn := fun _ => fun
  | [d1, d2] => { results := [.lit (.bool false)], args := [d1, d2] }
  | _ => none }
def AutoMaybeWrongFalsely : Prop := autoMaybeRow.holds Tryd.pinned (OpenSpec.ofChange autoMaybeWrong)

/-- 'triviumlaw12.QueryMay': WHATEVER THE INPUT: true; the input reads as it did. -/
def queryMaySpec : ChangeSpec := { name := "queryMay", fn := fun _ => fun
  | [d] => { results := [.lit (.bool true)], args := [d] }
  | _ => none }
def queryMayRow : OpenClaim := { program := "ytbaegfjoionojaadoor", sum := "eb2236f2e5c1757f399d07a85571e2125f649005d7f425cca1b9fbe15d39e729", func := "trivium/triviumlaw12.QueryMay", spec := "queryMay", inPlace := ["internal/bytealg.IndexByteString", "internal/bytealg.IndexString", "internal/bytealg.CountString", "internal/abi.NoEscape", "internal/bytealg.MakeNoZero"], unfollowed := true, recurses := true, named := ["unicode/utf8.first", "unicode/utf8.acceptRanges", "internal/bytealg.MaxLen"], loops := true, apart := false, laid := [("unicode/utf8.acceptRanges", laid_unicode_utf8_acceptRanges), ("unicode/utf8.first", laid_unicode_utf8_first)] }
def QueryMaySaid : Prop := queryMayRow.holds Tryd.pinned (OpenSpec.ofChange queryMaySpec)

/-- ITS FALSE NEIGHBOUR: 'it returns false'. Refute it at one input. -/
def queryMayWrong : ChangeSpec := { name := "queryMay", fn := fun _ => fun
  | [d] => { results := [.lit (.bool false)], args := [d] }
  | _ => none }
def QueryMayWrongFalsely : Prop := queryMayRow.holds Tryd.pinned (OpenSpec.ofChange queryMayWrong)

/-- 'triviumlaw12.QueryVars': WHATEVER THE INPUT: true; the input reads as it did. -/
def queryVarsSpec : ChangeSpec := { name := "queryVars", fn := fun _ => fun
  | [d] => { results := [.lit (.bool true)], args := [d] }
  | _ => none }
def queryVarsRow : OpenClaim := { program := "ytbaegfjoionojaadoor", sum := "eb2236f2e5c1757f399d07a85571e2125f649005d7f425cca1b9fbe15d39e729", func := "trivium/triviumlaw12.QueryVars", spec := "queryVars", inPlace := ["internal/bytealg.IndexByteString", "internal/bytealg.IndexString", "internal/bytealg.CountString", "internal/abi.NoEscape", "internal/bytealg.MakeNoZero"], unfollowed := true, recurses := true, named := ["unicode/utf8.first", "unicode/utf8.acceptRanges", "internal/bytealg.MaxLen"], apart := false, laid := [("unicode/utf8.acceptRanges", laid_unicode_utf8_acceptRanges), ("unicode/utf8.first", laid_unicode_utf8_first)] }
def QueryVarsSaid : Prop := queryVarsRow.holds Tryd.pinned (OpenSpec.ofChange queryVarsSpec)

/-- ITS FALSE NEIGHBOUR: 'it returns false'. Refute it at one input. -/
def queryVarsWrong : ChangeSpec := { name := "queryVars", fn := fun _ => fun
  | [d] => { results := [.lit (.bool false)], args := [d] }
  | _ => none }
def QueryVarsWrongFalsely : Prop := queryVarsRow.holds Tryd.pinned (OpenSpec.ofChange queryVarsWrong)

/- THE SECOND FORM. 'bulk': how many values and letters a reading holds, each counted each time it is reached (what is shared counts as often as it is met; a slice's spare places count too). A statement '..UptoSaid' is the law's where the arguments, and the package variables that the reading takes, are together of bulk at most 1048576: NARROWER than '..Said'. Prove '..Said' where nothing that the law and all that it calls make is longer than what came in: it says more and counts as full. Else prove '..UptoSaid'. A law counts once. -/
mutual
def uptoBulk {H : Type} : DataW H → Nat
  | .lit (.string bytes) => bytes.length + 1
  | .lit _ => 1
  | .nil => 1
  | .ptr d => uptoBulk d + 1
  | .slice elems spare => uptoBulkAll elems + uptoBulkAll spare + 1
  | .agg parts => uptoBulkAll parts + 1
  | .iface _ d => uptoBulk d + 1
  | .map entries => uptoBulkEntries entries + 1
  | .held _ => 1
def uptoBulkAll {H : Type} : List (DataW H) → Nat
  | [] => 0
  | d :: r => uptoBulk d + uptoBulkAll r
def uptoBulkEntries {H : Type} : List (Lit × DataW H) → Nat
  | [] => 0
  | x :: r => uptoBulkEntry x + uptoBulkEntries r
def uptoBulkEntry {H : Type} : Lit × DataW H → Nat
  | (.string bytes, d) => bytes.length + uptoBulk d + 1
  | (_, d) => uptoBulk d + 1
 end
def uptoSmall : (H : Type) → List (DataW H) → Bool := fun _ ds => decide (uptoBulkAll ds ≤ 1048576)
def OpenSpec.upto (s : _root_.Go.ChangeSpec) : _root_.Go.OpenSpec := { _root_.Go.OpenSpec.ofChange s with cond := some uptoSmall }

/-- 'triviumlaw12.QueryBack', WHERE WHAT IT READS IS OF BULK AT MOST 1048576: true; the input reads as it did. -/
def queryBackUptoRow : OpenClaim := { program := "ytbaegfjoionojaadoor", sum := "eb2236f2e5c1757f399d07a85571e2125f649005d7f425cca1b9fbe15d39e729", func := "trivium/triviumlaw12.QueryBack", spec := "queryBack", inPlace := ["internal/abi.NoEscape", "internal/bytealg.MakeNoZero", "internal/bytealg.IndexByteString", "internal/bytealg.IndexString"], unfollowed := true, recurses := true, named := ["unicode/utf8.first", "unicode/utf8.acceptRanges", "internal/bytealg.MaxLen"], loops := true, apart := false, laid := [("unicode/utf8.acceptRanges", laid_unicode_utf8_acceptRanges), ("unicode/utf8.first", laid_unicode_utf8_first)], narrowed := true }
def QueryBackUptoSaid : Prop := queryBackUptoRow.holds Tryd.pinned (OpenSpec.upto queryBackSpec)

/-- 'triviumlaw12.QueryBlanks', WHERE WHAT IT READS IS OF BULK AT MOST 1048576: true; the input reads as it did. -/
def queryBlanksUptoRow : OpenClaim := { program := "ytbaegfjoionojaadoor", sum := "eb2236f2e5c1757f399d07a85571e2125f649005d7f425cca1b9fbe15d39e729", func := "trivium/triviumlaw12.QueryBlanks", spec := "queryBlanks", inPlace := ["internal/bytealg.IndexByteString", "internal/bytealg.IndexString", "internal/abi.NoEscape", "internal/bytealg.MakeNoZero"], unfollowed := true, recurses := true, named := ["unicode/utf8.first", "unicode/utf8.acceptRanges", "internal/bytealg.MaxLen"], loops := true, apart := false, laid := [("unicode/utf8.acceptRanges", laid_unicode_utf8_acceptRanges), ("unicode/utf8.first", laid_unicode_utf8_first)], narrowed := true }
def QueryBlanksUptoSaid : Prop := queryBlanksUptoRow.holds Tryd.pinned (OpenSpec.upto queryBlanksSpec)

/-- 'triviumlaw12.QueryDeep', WHERE WHAT IT READS IS OF BULK AT MOST 1048576: true; the input reads as it did. -/
def queryDeepUptoRow : OpenClaim := { program := "ytbaegfjoionojaadoor", sum := "eb2236f2e5c1757f399d07a85571e2125f649005d7f425cca1b9fbe15d39e729", func := "trivium/triviumlaw12.QueryDeep", spec := "queryDeep", inPlace := ["internal/bytealg.IndexByteString", "internal/bytealg.IndexString", "internal/abi.NoEscape", "internal/bytealg.MakeNoZero"], unfollowed := true, recurses := true, named := ["internal/bytealg.MaxLen", "unicode/utf8.first", "unicode/utf8.acceptRanges"], apart := false, laid := [("unicode/utf8.acceptRanges", laid_unicode_utf8_acceptRanges), ("unicode/utf8.first", laid_unicode_utf8_first)], narrowed := true }
def QueryDeepUptoSaid : Prop := queryDeepUptoRow.holds Tryd.pinned (OpenSpec.upto queryDeepSpec)

/-- 'triviumlaw12.QueryBinds', WHERE WHAT IT READS IS OF BULK AT MOST 1048576: true; the input reads as it did. -/
def queryBindsUptoRow : OpenClaim := { program := "ytbaegfjoionojaadoor", sum := "eb2236f2e5c1757f399d07a85571e2125f649005d7f425cca1b9fbe15d39e729", func := "trivium/triviumlaw12.QueryBinds", spec := "queryBinds", inPlace := ["internal/bytealg.IndexByteString", "internal/bytealg.IndexString", "internal/abi.NoEscape", "internal/bytealg.MakeNoZero"], unfollowed := true, recurses := true, named := ["internal/bytealg.MaxLen", "unicode/utf8.first", "unicode/utf8.acceptRanges"], apart := false, laid := [("unicode/utf8.acceptRanges", laid_unicode_utf8_acceptRanges), ("unicode/utf8.first", laid_unicode_utf8_first)], narrowed := true }
def QueryBindsUptoSaid : Prop := queryBindsUptoRow.holds Tryd.pinned (OpenSpec.upto queryBindsSpec)

/-- 'triviumlaw12.QueryCut', WHERE WHAT IT READS IS OF BULK AT MOST 1048576: true; the input reads as it did. -/
def queryCutUptoRow : OpenClaim := { program := "ytbaegfjoionojaadoor", sum := "eb2236f2e5c1757f399d07a85571e2125f649005d7f425cca1b9fbe15d39e729", func := "trivium/triviumlaw12.QueryCut", spec := "queryCut", inPlace := ["internal/bytealg.IndexByteString", "internal/bytealg.IndexString", "internal/abi.NoEscape", "internal/bytealg.MakeNoZero"], unfollowed := true, recurses := true, named := ["unicode/utf8.first", "unicode/utf8.acceptRanges", "internal/bytealg.MaxLen"], loops := true, apart := false, laid := [("unicode/utf8.acceptRanges", laid_unicode_utf8_acceptRanges), ("unicode/utf8.first", laid_unicode_utf8_first)], narrowed := true }
def QueryCutUptoSaid : Prop := queryCutUptoRow.holds Tryd.pinned (OpenSpec.upto queryCutSpec)

/-- 'triviumlaw12.QueryPaths', WHERE WHAT IT READS IS OF BULK AT MOST 1048576: true; the input reads as it did. -/
def queryPathsUptoRow : OpenClaim := { program := "ytbaegfjoionojaadoor", sum := "eb2236f2e5c1757f399d07a85571e2125f649005d7f425cca1b9fbe15d39e729", func := "trivium/triviumlaw12.QueryPaths", spec := "queryPaths", inPlace := ["internal/bytealg.IndexByteString", "internal/bytealg.IndexString", "internal/abi.NoEscape", "internal/bytealg.MakeNoZero"], unfollowed := true, recurses := true, named := ["internal/bytealg.MaxLen", "unicode/utf8.first", "unicode/utf8.acceptRanges"], apart := false, laid := [("unicode/utf8.acceptRanges", laid_unicode_utf8_acceptRanges), ("unicode/utf8.first", laid_unicode_utf8_first)], narrowed := true }
def QueryPathsUptoSaid : Prop := queryPathsUptoRow.holds Tryd.pinned (OpenSpec.upto queryPathsSpec)

/-- 'triviumlaw12.QueryTells', WHERE WHAT IT READS IS OF BULK AT MOST 1048576: true; the input reads as it did. -/
def queryTellsUptoRow : OpenClaim := { program := "ytbaegfjoionojaadoor", sum := "eb2236f2e5c1757f399d07a85571e2125f649005d7f425cca1b9fbe15d39e729", func := "trivium/triviumlaw12.QueryTells", spec := "queryTells", inPlace := ["internal/bytealg.IndexByteString", "internal/bytealg.IndexString", "internal/abi.NoEscape", "internal/bytealg.MakeNoZero"], unfollowed := true, recurses := true, named := ["unicode/utf8.first", "unicode/utf8.acceptRanges", "internal/bytealg.MaxLen"], loops := true, apart := false, laid := [("unicode/utf8.acceptRanges", laid_unicode_utf8_acceptRanges), ("unicode/utf8.first", laid_unicode_utf8_first)], narrowed := true }
def QueryTellsUptoSaid : Prop := queryTellsUptoRow.holds Tryd.pinned (OpenSpec.upto queryTellsSpec)

/-- 'triviumlaw12.QueryOdd', WHERE WHAT IT READS IS OF BULK AT MOST 1048576: true; the input reads as it did. -/
def queryOddUptoRow : OpenClaim := { program := "ytbaegfjoionojaadoor", sum := "eb2236f2e5c1757f399d07a85571e2125f649005d7f425cca1b9fbe15d39e729", func := "trivium/triviumlaw12.QueryOdd", spec := "queryOdd", inPlace := ["internal/bytealg.IndexByteString", "internal/bytealg.IndexString", "internal/abi.NoEscape", "internal/bytealg.MakeNoZero"], unfollowed := true, recurses := true, named := ["unicode/utf8.first", "unicode/utf8.acceptRanges", "internal/bytealg.MaxLen"], apart := false, laid := [("unicode/utf8.acceptRanges", laid_unicode_utf8_acceptRanges), ("unicode/utf8.first", laid_unicode_utf8_first)], narrowed := true }
def QueryOddUptoSaid : Prop := queryOddUptoRow.holds Tryd.pinned (OpenSpec.upto queryOddSpec)

/-- 'triviumlaw13.AutoTells', WHERE WHAT IT READS IS OF BULK AT MOST 1048576: true; the input reads as it did. -/
def autoTellsUptoRow : OpenClaim := { program := "ytbaegfjoionojaadoor", sum := "eb2236f2e5c1757f399d07a85571e2125f649005d7f425cca1b9fbe15d39e729", func := "trivium/triviumlaw13.AutoTells", spec := "autoTells", inPlace := ["internal/bytealg.IndexByteString", "internal/bytealg.IndexString"], unfollowed := true, recurses := true, named := ["unicode/utf8.first", "unicode/utf8.acceptRanges", "internal/bytealg.MaxLen"], loops := true, apart := false, laid := [("unicode/utf8.acceptRanges", laid_unicode_utf8_acceptRanges), ("unicode/utf8.first", laid_unicode_utf8_first)], narrowed := true }
def AutoTellsUptoSaid : Prop := autoTellsUptoRow.holds Tryd.pinned (OpenSpec.upto autoTellsSpec)

/-- 'triviumlaw13.AutoFull', WHERE WHAT IT READS IS OF BULK AT MOST 1048576: true; the input reads as it did. -/
def autoFullUptoRow : OpenClaim := { program := "ytbaegfjoionojaadoor", sum := "eb2236f2e5c1757f399d07a85571e2125f649005d7f425cca1b9fbe15d39e729", func := "trivium/triviumlaw13.AutoFull", spec := "autoFull", inPlace := ["internal/bytealg.IndexByteString", "internal/bytealg.IndexString"], unfollowed := true, recurses := true, named := ["unicode/utf8.first", "unicode/utf8.acceptRanges", "internal/bytealg.MaxLen"], apart := false, laid := [("unicode/utf8.acceptRanges", laid_unicode_utf8_acceptRanges), ("unicode/utf8.first", laid_unicode_utf8_first)], narrowed := true }
def AutoFullUptoSaid : Prop := autoFullUptoRow.holds Tryd.pinned (OpenSpec.upto autoFullSpec)

/-- 'triviumlaw13.AutoSteps', WHERE WHAT IT READS IS OF BULK AT MOST 1048576: true; the input reads as it did. -/
def autoStepsUptoRow : OpenClaim := { program := "ytbaegfjoionojaadoor", sum := "eb2236f2e5c1757f399d07a85571e2125f649005d7f425cca1b9fbe15d39e729", func := "trivium/triviumlaw13.AutoSteps", spec := "autoSteps", inPlace := ["internal/bytealg.IndexByteString", "internal/bytealg.IndexString"], unfollowed := true, recurses := true, named := ["unicode/utf8.first", "unicode/utf8.acceptRanges", "internal/bytealg.MaxLen"], loops := true, apart := false, laid := [("unicode/utf8.acceptRanges", laid_unicode_utf8_acceptRanges), ("unicode/utf8.first", laid_unicode_utf8_first)], narrowed := true }
def AutoStepsUptoSaid : Prop := autoStepsUptoRow.holds Tryd.pinned (OpenSpec.upto autoStepsSpec)

/-- 'triviumlaw13.AutoTakes', WHERE WHAT IT READS IS OF BULK AT MOST 1048576: true; the input reads as it did. -/
def autoTakesUptoRow : OpenClaim := { program := "ytbaegfjoionojaadoor", sum := "eb2236f2e5c1757f399d07a85571e2125f649005d7f425cca1b9fbe15d39e729", func := "trivium/triviumlaw13.AutoTakes", spec := "autoTakes", inPlace := ["internal/bytealg.IndexByteString", "internal/bytealg.IndexString"], unfollowed := true, recurses := true, named := ["unicode/utf8.first", "unicode/utf8.acceptRanges", "internal/bytealg.MaxLen"], loops := true, apart := false, laid := [("unicode/utf8.acceptRanges", laid_unicode_utf8_acceptRanges), ("unicode/utf8.first", laid_unicode_utf8_first)], narrowed := true }
def AutoTakesUptoSaid : Prop := autoTakesUptoRow.holds Tryd.pinned (OpenSpec.upto autoTakesSpec)

/-- 'triviumlaw13.AutoTurns', WHERE WHAT IT READS IS OF BULK AT MOST 1048576: true; the input reads as it did. -/
def autoTurnsUptoRow : OpenClaim := { program := "ytbaegfjoionojaadoor", sum := "eb2236f2e5c1757f399d07a85571e2125f649005d7f425cca1b9fbe15d39e729", func := "trivium/triviumlaw13.AutoTurns", spec := "autoTurns", inPlace := ["internal/bytealg.IndexByteString", "internal/bytealg.IndexString"], unfollowed := true, recurses := true, named := ["unicode/utf8.first", "unicode/utf8.acceptRanges", "internal/bytealg.MaxLen"], loops := true, apart := false, laid := [("unicode/utf8.acceptRanges", laid_unicode_utf8_acceptRanges), ("unicode/utf8.first", laid_unicode_utf8_first)], narrowed := true }
def AutoTurnsUptoSaid : Prop := autoTurnsUptoRow.holds Tryd.pinned (OpenSpec.upto autoTurnsSpec)

/-- 'triviumlaw13.AutoMany', WHERE WHAT IT READS IS OF BULK AT MOST 1048576: true; the input reads as it did. -/
def autoManyUptoRow : OpenClaim := { program := "ytbaegfjoionojaadoor", sum := "eb2236f2e5c1757f399d07a85571e2125f649005d7f425cca1b9fbe15d39e729", func := "trivium/triviumlaw13.AutoMany", spec := "autoMany", inPlace := ["internal/bytealg.IndexByteString", "internal/bytealg.IndexString"], unfollowed := true, recurses := true, named := ["unicode/utf8.first", "unicode/utf8.acceptRanges", "internal/bytealg.MaxLen"], loops := true, apart := false, laid := [("unicode/utf8.acceptRanges", laid_unicode_utf8_acceptRanges), ("unicode/utf8.first", laid_unicode_utf8_first)], narrowed := true }
def AutoManyUptoSaid : Prop := autoManyUptoRow.holds Tryd.pinned (OpenSpec.upto autoManySpec)

/-- 'triviumlaw13.AutoNot', WHERE WHAT IT READS IS OF BULK AT MOST 1048576: true; the input reads as it did. -/
def autoNotUptoRow : OpenClaim := { program := "ytbaegfjoionojaadoor", sum := "eb2236f2e5c1757f399d07a85571e2125f649005d7f425cca1b9fbe15d39e729", func := "trivium/triviumlaw13.AutoNot", spec := "autoNot", inPlace := ["internal/bytealg.IndexByteString", "internal/bytealg.IndexString"], unfollowed := true, recurses := true, named := ["unicode/utf8.first", "unicode/utf8.acceptRanges", "internal/bytealg.MaxLen"], apart := false, laid := [("unicode/utf8.acceptRanges", laid_unicode_utf8_acceptRanges), ("unicode/utf8.first", laid_unicode_utf8_first)], narrowed := true }
def AutoNotUptoSaid : Prop := autoNotUptoRow.holds Tryd.pinned (OpenSpec.upto autoNotSpec)

/-- 'triviumlaw13.AutoOfNothing', WHERE WHAT IT READS IS OF BULK AT MOST 1048576: true; the input reads as it did. -/
def autoOfNothingUptoRow : OpenClaim := { program := "ytbaegfjoionojaadoor", sum := "eb2236f2e5c1757f399d07a85571e2125f649005d7f425cca1b9fbe15d39e729", func := "trivium/triviumlaw13.AutoOfNothing", spec := "autoOfNothing", inPlace := ["internal/bytealg.IndexByteString", "internal/bytealg.IndexString"], unfollowed := true, recurses := true, named := ["unicode/utf8.first", "unicode/utf8.acceptRanges", "internal/bytealg.MaxLen"], apart := false, laid := [("unicode/utf8.acceptRanges", laid_unicode_utf8_acceptRanges), ("unicode/utf8.first", laid_unicode_utf8_first)], narrowed := true }
def AutoOfNothingUptoSaid : Prop := autoOfNothingUptoRow.holds Tryd.pinned (OpenSpec.upto autoOfNothingSpec)

/-- 'triviumlaw13.AutoParts', WHERE WHAT IT READS IS OF BULK AT MOST 1048576: true; the input reads as it did. -/
def autoPartsUptoRow : OpenClaim := { program := "ytbaegfjoionojaadoor", sum := "eb2236f2e5c1757f399d07a85571e2125f649005d7f425cca1b9fbe15d39e729", func := "trivium/triviumlaw13.AutoParts", spec := "autoParts", inPlace := ["internal/bytealg.IndexByteString", "internal/bytealg.IndexString"], unfollowed := true, recurses := true, named := ["unicode/utf8.first", "unicode/utf8.acceptRanges", "internal/bytealg.MaxLen"], loops := true, apart := false, laid := [("unicode/utf8.acceptRanges", laid_unicode_utf8_acceptRanges), ("unicode/utf8.first", laid_unicode_utf8_first)], narrowed := true }
def AutoPartsUptoSaid : Prop := autoPartsUptoRow.holds Tryd.pinned (OpenSpec.upto autoPartsSpec)

/-- 'triviumlaw13.AutoMaybe', WHERE WHAT IT READS IS OF BULK AT MOST 1048576: true; the input reads as it did. -/
def autoMaybeUptoRow : OpenClaim := { program := "ytbaegfjoionojaadoor", sum := "eb2236f2e5c1757f399d07a85571e2125f649005d7f425cca1b9fbe15d39e729", func := "trivium/triviumlaw13.AutoMaybe", spec := "autoMaybe", inPlace := ["internal/bytealg.IndexByteString", "internal/bytealg.IndexString"], unfollowed := true, recurses := true, named := ["unicode/utf8.first", "unicode/utf8.acceptRanges", "internal/bytealg.MaxLen"], loops := true, apart := false, laid := [("unicode/utf8.acceptRanges", laid_unicode_utf8_acceptRanges), ("unicode/utf8.first", laid_unicode_utf8_first)], narrowed := true }
def AutoMaybeUptoSaid : Prop := autoMaybeUptoRow.holds Tryd.pinned (OpenSpec.upto autoMaybeSpec)

/-- 'triviumlaw12.QueryMay', WHERE WHAT IT READS IS OF BULK AT MOST 1048576: true; the input reads as it did. -/
def queryMayUptoRow : OpenClaim := { program := "ytbaegfjoionojaadoor", sum := "eb2236f2e5c1757f399d07a85571e2125f649005d7f425cca1b9fbe15d39e729", func := "trivium/triviumlaw12.QueryMay", spec := "queryMay", inPlace := ["internal/bytealg.IndexByteString", "internal/bytealg.IndexString", "internal/bytealg.CountString", "internal/abi.NoEscape", "internal/bytealg.MakeNoZero"], unfollowed := true, recurses := true, named := ["unicode/utf8.first", "unicode/utf8.acceptRanges", "internal/bytealg.MaxLen"], loops := true, apart := false, laid := [("unicode/utf8.acceptRanges", laid_unicode_utf8_acceptRanges), ("unicode/utf8.first", laid_unicode_utf8_first)], narrowed := true }
def QueryMayUptoSaid : Prop := queryMayUptoRow.holds Tryd.pinned (OpenSpec.upto queryMaySpec)

/-- 'triviumlaw12.QueryVars', WHERE WHAT IT READS IS OF BULK AT MOST 1048576: true; the input reads as it did. -/
def queryVarsUptoRow : OpenClaim := { program := "ytbaegfjoionojaadoor", sum := "eb2236f2e5c1757f399d07a85571e2125f649005d7f425cca1b9fbe15d39e729", func := "trivium/triviumlaw12.QueryVars", spec := "queryVars", inPlace := ["internal/bytealg.IndexByteString", "internal/bytealg.IndexString", "internal/bytealg.CountString", "internal/abi.NoEscape", "internal/bytealg.MakeNoZero"], unfollowed := true, recurses := true, named := ["unicode/utf8.first", "unicode/utf8.acceptRanges", "internal/bytealg.MaxLen"], apart := false, laid := [("unicode/utf8.acceptRanges", laid_unicode_utf8_acceptRanges), ("unicode/utf8.first", laid_unicode_utf8_first)], narrowed := true }
def QueryVarsUptoSaid : Prop := queryVarsUptoRow.holds Tryd.pinned (OpenSpec.upto queryVarsSpec)

end Rows
end Go.Proofs.YtbaegfjoionojaaDoor
