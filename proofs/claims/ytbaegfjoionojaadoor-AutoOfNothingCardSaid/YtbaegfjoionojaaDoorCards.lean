/-
  DERIVED. GIVEN WITH THE SEED: THE CARDS: each row of YtbaegfjoionojaaDoorRows.lean that lists a variable, with what it lists TIED to the program's text (the seventh form; the later family's looks); each row that meets fmt, with fmt's text TOLD by the authors' own Lean function (tested against real Go, not proved from fmt's source: count such statements apart). THE CARD IS WHAT COUNTS. Prove the row's statement (the work); the ties are given (YtbaegfjoionojaaDoorTie.lean); close each card by the builder's one call (the guide's Derived/Test/ToyasCard.lean, 'card_holds'). Laid BY PROGRAM, IN A SANDBOX (cutbox-door.mjs). By AI agents, Wed Nov 11 2026. No macro, syntax, notation, axiom, sorry.
-/
import Derived.Test.YtbaegfjoionojaaDoorRows
import GoSem.ClaimSeven
namespace Go.Proofs.YtbaegfjoionojaaDoor
namespace Rows

/-- THE TIED CARD OF 'triviumlaw12.QueryBack'. -/
def queryBackCard : Claim7 := { stood := { row := queryBackRow, standIns := [], harness := (true, "1d80d748d7c40e0f2b73122b9faad42e26304f1aac90bb73a2cb775e587676ce"), looks := false }, kinds := [], alts := [], laidByText := true, laidKinds := [.data, .pinned], laidTests := true, laidLooks := .later }
def QueryBackCardSaid : Prop := Claim7.holds Tryd.pinned (.plain (OpenSpec.ofChange queryBackSpec)) queryBackCard

/-- THE TIED CARD OF 'triviumlaw12.QueryBlanks'. -/
def queryBlanksCard : Claim7 := { stood := { row := queryBlanksRow, standIns := [], harness := (true, "1d80d748d7c40e0f2b73122b9faad42e26304f1aac90bb73a2cb775e587676ce"), looks := false }, kinds := [], alts := [], laidByText := true, laidKinds := [.data, .pinned], laidTests := true, laidLooks := .later }
def QueryBlanksCardSaid : Prop := Claim7.holds Tryd.pinned (.plain (OpenSpec.ofChange queryBlanksSpec)) queryBlanksCard

/-- THE TIED CARD OF 'triviumlaw12.QueryDeep'. -/
def queryDeepCard : Claim7 := { stood := { row := queryDeepRow, standIns := [], harness := (true, "1d80d748d7c40e0f2b73122b9faad42e26304f1aac90bb73a2cb775e587676ce"), looks := false }, kinds := [], alts := [], laidByText := true, laidKinds := [.data, .pinned], laidTests := true, laidLooks := .later }
def QueryDeepCardSaid : Prop := Claim7.holds Tryd.pinned (.plain (OpenSpec.ofChange queryDeepSpec)) queryDeepCard

/-- THE TIED CARD OF 'triviumlaw12.QueryBinds'. -/
def queryBindsCard : Claim7 := { stood := { row := queryBindsRow, standIns := [], harness := (true, "1d80d748d7c40e0f2b73122b9faad42e26304f1aac90bb73a2cb775e587676ce"), looks := false }, kinds := [], alts := [], laidByText := true, laidKinds := [.data, .pinned], laidTests := true, laidLooks := .later }
def QueryBindsCardSaid : Prop := Claim7.holds Tryd.pinned (.plain (OpenSpec.ofChange queryBindsSpec)) queryBindsCard

/-- THE TIED CARD OF 'triviumlaw12.QueryCut'. -/
def queryCutCard : Claim7 := { stood := { row := queryCutRow, standIns := [], harness := (true, "1d80d748d7c40e0f2b73122b9faad42e26304f1aac90bb73a2cb775e587676ce"), looks := false }, kinds := [], alts := [], laidByText := true, laidKinds := [.data, .pinned], laidTests := true, laidLooks := .later }
def QueryCutCardSaid : Prop := Claim7.holds Tryd.pinned (.plain (OpenSpec.ofChange queryCutSpec)) queryCutCard

/-- THE TIED CARD OF 'triviumlaw12.QueryPaths'. -/
def queryPathsCard : Claim7 := { stood := { row := queryPathsRow, standIns := [], harness := (true, "1d80d748d7c40e0f2b73122b9faad42e26304f1aac90bb73a2cb775e587676ce"), looks := false }, kinds := [], alts := [], laidByText := true, laidKinds := [.data, .pinned], laidTests := true, laidLooks := .later }
def QueryPathsCardSaid : Prop := Claim7.holds Tryd.pinned (.plain (OpenSpec.ofChange queryPathsSpec)) queryPathsCard

/-- THE TIED CARD OF 'triviumlaw12.QueryTells'. -/
def queryTellsCard : Claim7 := { stood := { row := queryTellsRow, standIns := [], harness := (true, "1d80d748d7c40e0f2b73122b9faad42e26304f1aac90bb73a2cb775e587676ce"), looks := false }, kinds := [], alts := [], laidByText := true, laidKinds := [.data, .pinned], laidTests := true, laidLooks := .later }
def QueryTellsCardSaid : Prop := Claim7.holds Tryd.pinned (.plain (OpenSpec.ofChange queryTellsSpec)) queryTellsCard

/-- THE TIED CARD OF 'triviumlaw12.QueryOdd'. -/
def queryOddCard : Claim7 := { stood := { row := queryOddRow, standIns := [], harness := (true, "1d80d748d7c40e0f2b73122b9faad42e26304f1aac90bb73a2cb775e587676ce"), looks := false }, kinds := [], alts := [], laidByText := true, laidKinds := [.data, .pinned], laidTests := true, laidLooks := .later }
def QueryOddCardSaid : Prop := Claim7.holds Tryd.pinned (.plain (OpenSpec.ofChange queryOddSpec)) queryOddCard

/-- THE TIED CARD OF 'triviumlaw13.AutoTells'. -/
def autoTellsCard : Claim7 := { stood := { row := autoTellsRow, standIns := [], harness := (true, "1d80d748d7c40e0f2b73122b9faad42e26304f1aac90bb73a2cb775e587676ce"), looks := false }, kinds := [], alts := [], laidByText := true, laidKinds := [.data, .pinned], laidTests := true, laidLooks := .later }
def AutoTellsCardSaid : Prop := Claim7.holds Tryd.pinned (.plain (OpenSpec.ofChange autoTellsSpec)) autoTellsCard

/-- THE TIED CARD OF 'triviumlaw13.AutoFull'. -/
def autoFullCard : Claim7 := { stood := { row := autoFullRow, standIns := [], harness := (true, "1d80d748d7c40e0f2b73122b9faad42e26304f1aac90bb73a2cb775e587676ce"), looks := false }, kinds := [], alts := [], laidByText := true, laidKinds := [.data, .pinned], laidTests := true, laidLooks := .later }
def AutoFullCardSaid : Prop := Claim7.holds Tryd.pinned (.plain (OpenSpec.ofChange autoFullSpec)) autoFullCard

/-- THE TIED CARD OF 'triviumlaw13.AutoSteps'. -/
def autoStepsCard : Claim7 := { stood := { row := autoStepsRow, standIns := [], harness := (true, "1d80d748d7c40e0f2b73122b9faad42e26304f1aac90bb73a2cb775e587676ce"), looks := false }, kinds := [], alts := [], laidByText := true, laidKinds := [.data, .pinned], laidTests := true, laidLooks := .later }
def AutoStepsCardSaid : Prop := Claim7.holds Tryd.pinned (.plain (OpenSpec.ofChange autoStepsSpec)) autoStepsCard

/-- THE TIED CARD OF 'triviumlaw13.AutoTakes'. -/
def autoTakesCard : Claim7 := { stood := { row := autoTakesRow, standIns := [], harness := (true, "1d80d748d7c40e0f2b73122b9faad42e26304f1aac90bb73a2cb775e587676ce"), looks := false }, kinds := [], alts := [], laidByText := true, laidKinds := [.data, .pinned], laidTests := true, laidLooks := .later }
def AutoTakesCardSaid : Prop := Claim7.holds Tryd.pinned (.plain (OpenSpec.ofChange autoTakesSpec)) autoTakesCard

/-- THE TIED CARD OF 'triviumlaw13.AutoTurns'. -/
def autoTurnsCard : Claim7 := { stood := { row := autoTurnsRow, standIns := [], harness := (true, "1d80d748d7c40e0f2b73122b9faad42e26304f1aac90bb73a2cb775e587676ce"), looks := false }, kinds := [], alts := [], laidByText := true, laidKinds := [.data, .pinned], laidTests := true, laidLooks := .later }
def AutoTurnsCardSaid : Prop := Claim7.holds Tryd.pinned (.plain (OpenSpec.ofChange autoTurnsSpec)) autoTurnsCard

/-- THE TIED CARD OF 'triviumlaw13.AutoMany'. -/
def autoManyCard : Claim7 := { stood := { row := autoManyRow, standIns := [], harness := (true, "1d80d748d7c40e0f2b73122b9faad42e26304f1aac90bb73a2cb775e587676ce"), looks := false }, kinds := [], alts := [], laidByText := true, laidKinds := [.data, .pinned], laidTests := true, laidLooks := .later }
def AutoManyCardSaid : Prop := Claim7.holds Tryd.pinned (.plain (OpenSpec.ofChange autoManySpec)) autoManyCard

/-- THE TIED CARD OF 'triviumlaw13.AutoNot'. -/
def autoNotCard : Claim7 := { stood := { row := autoNotRow, standIns := [], harness := (true, "1d80d748d7c40e0f2b73122b9faad42e26304f1aac90bb73a2cb775e587676ce"), looks := false }, kinds := [], alts := [], laidByText := true, laidKinds := [.data, .pinned], laidTests := true, laidLooks := .later }
def AutoNotCardSaid : Prop := Claim7.holds Tryd.pinned (.plain (OpenSpec.ofChange autoNotSpec)) autoNotCard

/-- THE TIED CARD OF 'triviumlaw13.AutoOfNothing'. -/
def autoOfNothingCard : Claim7 := { stood := { row := autoOfNothingRow, standIns := [], harness := (true, "1d80d748d7c40e0f2b73122b9faad42e26304f1aac90bb73a2cb775e587676ce"), looks := false }, kinds := [], alts := [], laidByText := true, laidKinds := [.data, .pinned], laidTests := true, laidLooks := .later }
def AutoOfNothingCardSaid : Prop := Claim7.holds Tryd.pinned (.plain (OpenSpec.ofChange autoOfNothingSpec)) autoOfNothingCard

/-- THE TIED CARD OF 'triviumlaw13.AutoParts'. -/
def autoPartsCard : Claim7 := { stood := { row := autoPartsRow, standIns := [], harness := (true, "1d80d748d7c40e0f2b73122b9faad42e26304f1aac90bb73a2cb775e587676ce"), looks := false }, kinds := [], alts := [], laidByText := true, laidKinds := [.data, .pinned], laidTests := true, laidLooks := .later }
def AutoPartsCardSaid : Prop := Claim7.holds Tryd.pinned (.plain (OpenSpec.ofChange autoPartsSpec)) autoPartsCard

/-- THE TIED CARD OF 'triviumlaw13.AutoMaybe'. -/
def autoMaybeCard : Claim7 := { stood := { row := autoMaybeRow, standIns := [], harness := (true, "1d80d748d7c40e0f2b73122b9faad42e26304f1aac90bb73a2cb775e587676ce"), looks := false }, kinds := [], alts := [], laidByText := true, laidKinds := [.data, .pinned], laidTests := true, laidLooks := .later }
def AutoMaybeCardSaid : Prop := Claim7.holds Tryd.pinned (.plain (OpenSpec.ofChange autoMaybeSpec)) autoMaybeCard

/-- THE TIED CARD OF 'triviumlaw12.QueryMay'. -/
def queryMayCard : Claim7 := { stood := { row := queryMayRow, standIns := [], harness := (true, "1d80d748d7c40e0f2b73122b9faad42e26304f1aac90bb73a2cb775e587676ce"), looks := false }, kinds := [], alts := [], laidByText := true, laidKinds := [.data, .pinned], laidTests := true, laidLooks := .later }
def QueryMayCardSaid : Prop := Claim7.holds Tryd.pinned (.plain (OpenSpec.ofChange queryMaySpec)) queryMayCard

/-- THE TIED CARD OF 'triviumlaw12.QueryVars'. -/
def queryVarsCard : Claim7 := { stood := { row := queryVarsRow, standIns := [], harness := (true, "1d80d748d7c40e0f2b73122b9faad42e26304f1aac90bb73a2cb775e587676ce"), looks := false }, kinds := [], alts := [], laidByText := true, laidKinds := [.data, .pinned], laidTests := true, laidLooks := .later }
def QueryVarsCardSaid : Prop := Claim7.holds Tryd.pinned (.plain (OpenSpec.ofChange queryVarsSpec)) queryVarsCard

/-- THE SECOND FORM's CARD OF 'triviumlaw12.QueryBack'. -/
def queryBackUptoCard : Claim7 := { stood := { row := queryBackUptoRow, standIns := [], harness := (true, "1d80d748d7c40e0f2b73122b9faad42e26304f1aac90bb73a2cb775e587676ce"), looks := false }, kinds := [], alts := [], laidByText := true, laidKinds := [.data, .pinned], laidTests := true, laidLooks := .later }
def QueryBackUptoCardSaid : Prop := Claim7.holds Tryd.pinned (.plain (OpenSpec.upto queryBackSpec)) queryBackUptoCard

/-- THE SECOND FORM's CARD OF 'triviumlaw12.QueryBlanks'. -/
def queryBlanksUptoCard : Claim7 := { stood := { row := queryBlanksUptoRow, standIns := [], harness := (true, "1d80d748d7c40e0f2b73122b9faad42e26304f1aac90bb73a2cb775e587676ce"), looks := false }, kinds := [], alts := [], laidByText := true, laidKinds := [.data, .pinned], laidTests := true, laidLooks := .later }
def QueryBlanksUptoCardSaid : Prop := Claim7.holds Tryd.pinned (.plain (OpenSpec.upto queryBlanksSpec)) queryBlanksUptoCard

/-- THE SECOND FORM's CARD OF 'triviumlaw12.QueryDeep'. -/
def queryDeepUptoCard : Claim7 := { stood := { row := queryDeepUptoRow, standIns := [], harness := (true, "1d80d748d7c40e0f2b73122b9faad42e26304f1aac90bb73a2cb775e587676ce"), looks := false }, kinds := [], alts := [], laidByText := true, laidKinds := [.data, .pinned], laidTests := true, laidLooks := .later }
def QueryDeepUptoCardSaid : Prop := Claim7.holds Tryd.pinned (.plain (OpenSpec.upto queryDeepSpec)) queryDeepUptoCard

/-- THE SECOND FORM's CARD OF 'triviumlaw12.QueryBinds'. -/
def queryBindsUptoCard : Claim7 := { stood := { row := queryBindsUptoRow, standIns := [], harness := (true, "1d80d748d7c40e0f2b73122b9faad42e26304f1aac90bb73a2cb775e587676ce"), looks := false }, kinds := [], alts := [], laidByText := true, laidKinds := [.data, .pinned], laidTests := true, laidLooks := .later }
def QueryBindsUptoCardSaid : Prop := Claim7.holds Tryd.pinned (.plain (OpenSpec.upto queryBindsSpec)) queryBindsUptoCard

/-- THE SECOND FORM's CARD OF 'triviumlaw12.QueryCut'. -/
def queryCutUptoCard : Claim7 := { stood := { row := queryCutUptoRow, standIns := [], harness := (true, "1d80d748d7c40e0f2b73122b9faad42e26304f1aac90bb73a2cb775e587676ce"), looks := false }, kinds := [], alts := [], laidByText := true, laidKinds := [.data, .pinned], laidTests := true, laidLooks := .later }
def QueryCutUptoCardSaid : Prop := Claim7.holds Tryd.pinned (.plain (OpenSpec.upto queryCutSpec)) queryCutUptoCard

/-- THE SECOND FORM's CARD OF 'triviumlaw12.QueryPaths'. -/
def queryPathsUptoCard : Claim7 := { stood := { row := queryPathsUptoRow, standIns := [], harness := (true, "1d80d748d7c40e0f2b73122b9faad42e26304f1aac90bb73a2cb775e587676ce"), looks := false }, kinds := [], alts := [], laidByText := true, laidKinds := [.data, .pinned], laidTests := true, laidLooks := .later }
def QueryPathsUptoCardSaid : Prop := Claim7.holds Tryd.pinned (.plain (OpenSpec.upto queryPathsSpec)) queryPathsUptoCard

/-- THE SECOND FORM's CARD OF 'triviumlaw12.QueryTells'. -/
def queryTellsUptoCard : Claim7 := { stood := { row := queryTellsUptoRow, standIns := [], harness := (true, "1d80d748d7c40e0f2b73122b9faad42e26304f1aac90bb73a2cb775e587676ce"), looks := false }, kinds := [], alts := [], laidByText := true, laidKinds := [.data, .pinned], laidTests := true, laidLooks := .later }
def QueryTellsUptoCardSaid : Prop := Claim7.holds Tryd.pinned (.plain (OpenSpec.upto queryTellsSpec)) queryTellsUptoCard

/-- THE SECOND FORM's CARD OF 'triviumlaw12.QueryOdd'. -/
def queryOddUptoCard : Claim7 := { stood := { row := queryOddUptoRow, standIns := [], harness := (true, "1d80d748d7c40e0f2b73122b9faad42e26304f1aac90bb73a2cb775e587676ce"), looks := false }, kinds := [], alts := [], laidByText := true, laidKinds := [.data, .pinned], laidTests := true, laidLooks := .later }
def QueryOddUptoCardSaid : Prop := Claim7.holds Tryd.pinned (.plain (OpenSpec.upto queryOddSpec)) queryOddUptoCard

/-- THE SECOND FORM's CARD OF 'triviumlaw13.AutoTells'. -/
def autoTellsUptoCard : Claim7 := { stood := { row := autoTellsUptoRow, standIns := [], harness := (true, "1d80d748d7c40e0f2b73122b9faad42e26304f1aac90bb73a2cb775e587676ce"), looks := false }, kinds := [], alts := [], laidByText := true, laidKinds := [.data, .pinned], laidTests := true, laidLooks := .later }
def AutoTellsUptoCardSaid : Prop := Claim7.holds Tryd.pinned (.plain (OpenSpec.upto autoTellsSpec)) autoTellsUptoCard

/-- THE SECOND FORM's CARD OF 'triviumlaw13.AutoFull'. -/
def autoFullUptoCard : Claim7 := { stood := { row := autoFullUptoRow, standIns := [], harness := (true, "1d80d748d7c40e0f2b73122b9faad42e26304f1aac90bb73a2cb775e587676ce"), looks := false }, kinds := [], alts := [], laidByText := true, laidKinds := [.data, .pinned], laidTests := true, laidLooks := .later }
def AutoFullUptoCardSaid : Prop := Claim7.holds Tryd.pinned (.plain (OpenSpec.upto autoFullSpec)) autoFullUptoCard

/-- THE SECOND FORM's CARD OF 'triviumlaw13.AutoSteps'. -/
def autoStepsUptoCard : Claim7 := { stood := { row := autoStepsUptoRow, standIns := [], harness := (true, "1d80d748d7c40e0f2b73122b9faad42e26304f1aac90bb73a2cb775e587676ce"), looks := false }, kinds := [], alts := [], laidByText := true, laidKinds := [.data, .pinned], laidTests := true, laidLooks := .later }
def AutoStepsUptoCardSaid : Prop := Claim7.holds Tryd.pinned (.plain (OpenSpec.upto autoStepsSpec)) autoStepsUptoCard

/-- THE SECOND FORM's CARD OF 'triviumlaw13.AutoTakes'. -/
def autoTakesUptoCard : Claim7 := { stood := { row := autoTakesUptoRow, standIns := [], harness := (true, "1d80d748d7c40e0f2b73122b9faad42e26304f1aac90bb73a2cb775e587676ce"), looks := false }, kinds := [], alts := [], laidByText := true, laidKinds := [.data, .pinned], laidTests := true, laidLooks := .later }
def AutoTakesUptoCardSaid : Prop := Claim7.holds Tryd.pinned (.plain (OpenSpec.upto autoTakesSpec)) autoTakesUptoCard

/-- THE SECOND FORM's CARD OF 'triviumlaw13.AutoTurns'. -/
def autoTurnsUptoCard : Claim7 := { stood := { row := autoTurnsUptoRow, standIns := [], harness := (true, "1d80d748d7c40e0f2b73122b9faad42e26304f1aac90bb73a2cb775e587676ce"), looks := false }, kinds := [], alts := [], laidByText := true, laidKinds := [.data, .pinned], laidTests := true, laidLooks := .later }
def AutoTurnsUptoCardSaid : Prop := Claim7.holds Tryd.pinned (.plain (OpenSpec.upto autoTurnsSpec)) autoTurnsUptoCard

/-- THE SECOND FORM's CARD OF 'triviumlaw13.AutoMany'. -/
def autoManyUptoCard : Claim7 := { stood := { row := autoManyUptoRow, standIns := [], harness := (true, "1d80d748d7c40e0f2b73122b9faad42e26304f1aac90bb73a2cb775e587676ce"), looks := false }, kinds := [], alts := [], laidByText := true, laidKinds := [.data, .pinned], laidTests := true, laidLooks := .later }
def AutoManyUptoCardSaid : Prop := Claim7.holds Tryd.pinned (.plain (OpenSpec.upto autoManySpec)) autoManyUptoCard

/-- THE SECOND FORM's CARD OF 'triviumlaw13.AutoNot'. -/
def autoNotUptoCard : Claim7 := { stood := { row := autoNotUptoRow, standIns := [], harness := (true, "1d80d748d7c40e0f2b73122b9faad42e26304f1aac90bb73a2cb775e587676ce"), looks := false }, kinds := [], alts := [], laidByText := true, laidKinds := [.data, .pinned], laidTests := true, laidLooks := .later }
def AutoNotUptoCardSaid : Prop := Claim7.holds Tryd.pinned (.plain (OpenSpec.upto autoNotSpec)) autoNotUptoCard

/-- THE SECOND FORM's CARD OF 'triviumlaw13.AutoOfNothing'. -/
def autoOfNothingUptoCard : Claim7 := { stood := { row := autoOfNothingUptoRow, standIns := [], harness := (true, "1d80d748d7c40e0f2b73122b9faad42e26304f1aac90bb73a2cb775e587676ce"), looks := false }, kinds := [], alts := [], laidByText := true, laidKinds := [.data, .pinned], laidTests := true, laidLooks := .later }
def AutoOfNothingUptoCardSaid : Prop := Claim7.holds Tryd.pinned (.plain (OpenSpec.upto autoOfNothingSpec)) autoOfNothingUptoCard

/-- THE SECOND FORM's CARD OF 'triviumlaw13.AutoParts'. -/
def autoPartsUptoCard : Claim7 := { stood := { row := autoPartsUptoRow, standIns := [], harness := (true, "1d80d748d7c40e0f2b73122b9faad42e26304f1aac90bb73a2cb775e587676ce"), looks := false }, kinds := [], alts := [], laidByText := true, laidKinds := [.data, .pinned], laidTests := true, laidLooks := .later }
def AutoPartsUptoCardSaid : Prop := Claim7.holds Tryd.pinned (.plain (OpenSpec.upto autoPartsSpec)) autoPartsUptoCard

/-- THE SECOND FORM's CARD OF 'triviumlaw13.AutoMaybe'. -/
def autoMaybeUptoCard : Claim7 := { stood := { row := autoMaybeUptoRow, standIns := [], harness := (true, "1d80d748d7c40e0f2b73122b9faad42e26304f1aac90bb73a2cb775e587676ce"), looks := false }, kinds := [], alts := [], laidByText := true, laidKinds := [.data, .pinned], laidTests := true, laidLooks := .later }
def AutoMaybeUptoCardSaid : Prop := Claim7.holds Tryd.pinned (.plain (OpenSpec.upto autoMaybeSpec)) autoMaybeUptoCard

/-- THE SECOND FORM's CARD OF 'triviumlaw12.QueryMay'. -/
def queryMayUptoCard : Claim7 := { stood := { row := queryMayUptoRow, standIns := [], harness := (true, "1d80d748d7c40e0f2b73122b9faad42e26304f1aac90bb73a2cb775e587676ce"), looks := false }, kinds := [], alts := [], laidByText := true, laidKinds := [.data, .pinned], laidTests := true, laidLooks := .later }
def QueryMayUptoCardSaid : Prop := Claim7.holds Tryd.pinned (.plain (OpenSpec.upto queryMaySpec)) queryMayUptoCard

/-- THE SECOND FORM's CARD OF 'triviumlaw12.QueryVars'. -/
def queryVarsUptoCard : Claim7 := { stood := { row := queryVarsUptoRow, standIns := [], harness := (true, "1d80d748d7c40e0f2b73122b9faad42e26304f1aac90bb73a2cb775e587676ce"), looks := false }, kinds := [], alts := [], laidByText := true, laidKinds := [.data, .pinned], laidTests := true, laidLooks := .later }
def QueryVarsUptoCardSaid : Prop := Claim7.holds Tryd.pinned (.plain (OpenSpec.upto queryVarsSpec)) queryVarsUptoCard
end Rows
end Go.Proofs.YtbaegfjoionojaaDoor
