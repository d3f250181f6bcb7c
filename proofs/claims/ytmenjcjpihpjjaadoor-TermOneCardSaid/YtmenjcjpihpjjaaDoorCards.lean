/-
  DERIVED. GIVEN WITH THE SEED: THE CARDS: each row of YtmenjcjpihpjjaaDoorRows.lean that lists a variable, with what it lists TIED to the program's text (the seventh form; the later family's looks); each row that meets fmt, with fmt's text TOLD by the authors' own Lean function (tested against real Go, not proved from fmt's source: count such statements apart). THE CARD IS WHAT COUNTS. Prove the row's statement (the work); the ties are given (YtmenjcjpihpjjaaDoorTie.lean); close each card by the builder's one call (the guide's Derived/Test/ToyasCard.lean, 'card_holds'). Laid BY PROGRAM, IN A SANDBOX (cutbox-door.mjs). By AI agents, Wed Nov 11 2026. No macro, syntax, notation, axiom, sorry.
-/
import Derived.Test.YtmenjcjpihpjjaaDoorRows
import GoSem.ClaimSeven
namespace Go.Proofs.YtmenjcjpihpjjaaDoor
namespace Rows

/-- THE TIED CARD OF 'triviumlaw4.TermEscapes'. -/
def termEscapesCard : Claim7 := { stood := { row := termEscapesRow, standIns := [], harness := (true, "062d6e70717079012b6e28d58d290f518de3588c10e415c4e65679dc442f8765"), looks := false }, kinds := [], alts := [], laidByText := true, laidKinds := [.data, .pinned], laidTests := true, laidLooks := .later }
def TermEscapesCardSaid : Prop := Claim7.holds Tryd.pinned (.plain (OpenSpec.ofChange termEscapesSpec)) termEscapesCard

/-- THE TIED CARD OF 'triviumlaw4.TermLangs'. -/
def termLangsCard : Claim7 := { stood := { row := termLangsRow, standIns := [], harness := (true, "062d6e70717079012b6e28d58d290f518de3588c10e415c4e65679dc442f8765"), looks := false }, kinds := [], alts := [], laidByText := true, laidKinds := [.data, .pinned], laidTests := true, laidLooks := .later }
def TermLangsCardSaid : Prop := Claim7.holds Tryd.pinned (.plain (OpenSpec.ofChange termLangsSpec)) termLangsCard

/-- THE TIED CARD OF 'triviumlaw4.TermRunes'. -/
def termRunesCard : Claim7 := { stood := { row := termRunesRow, standIns := [], harness := (true, "062d6e70717079012b6e28d58d290f518de3588c10e415c4e65679dc442f8765"), looks := false }, kinds := [], alts := [], laidByText := true, laidKinds := [.data, .pinned], laidTests := true, laidLooks := .later }
def TermRunesCardSaid : Prop := Claim7.holds Tryd.pinned (.plain (OpenSpec.ofChange termRunesSpec)) termRunesCard

/-- THE TIED CARD OF 'triviumlaw4.TermLong'. -/
def termLongCard : Claim7 := { stood := { row := termLongRow, standIns := [], harness := (true, "062d6e70717079012b6e28d58d290f518de3588c10e415c4e65679dc442f8765"), looks := false }, kinds := [], alts := [], laidByText := true, laidKinds := [.data, .pinned], laidTests := true, laidLooks := .later }
def TermLongCardSaid : Prop := Claim7.holds Tryd.pinned (.plain (OpenSpec.ofChange termLongSpec)) termLongCard

/-- THE TIED CARD OF 'triviumlaw4.TermOne'. -/
def termOneCard : Claim7 := { stood := { row := termOneRow, standIns := [], harness := (true, "062d6e70717079012b6e28d58d290f518de3588c10e415c4e65679dc442f8765"), looks := false }, kinds := [], alts := [], laidByText := true, laidKinds := [.data, .pinned], laidTests := true, laidLooks := .later }
def TermOneCardSaid : Prop := Claim7.holds Tryd.pinned (.plain (OpenSpec.ofChange termOneSpec)) termOneCard

/-- THE TIED CARD OF 'triviumlaw4.TermKinds'. -/
def termKindsCard : Claim7 := { stood := { row := termKindsRow, standIns := [], harness := (true, "062d6e70717079012b6e28d58d290f518de3588c10e415c4e65679dc442f8765"), looks := false }, kinds := [], alts := [], laidByText := true, laidKinds := [.data, .pinned], laidTests := true, laidLooks := .later }
def TermKindsCardSaid : Prop := Claim7.holds Tryd.pinned (.plain (OpenSpec.ofChange termKindsSpec)) termKindsCard

/-- THE TIED CARD OF 'triviumlaw4.TermNumbers'. -/
def termNumbersCard : Claim7 := { stood := { row := termNumbersRow, standIns := [], harness := (true, "062d6e70717079012b6e28d58d290f518de3588c10e415c4e65679dc442f8765"), looks := false }, kinds := [], alts := [], laidByText := true, laidKinds := [.data, .pinned], laidTests := true, laidLooks := .later }
def TermNumbersCardSaid : Prop := Claim7.holds Tryd.pinned (.plain (OpenSpec.ofChange termNumbersSpec)) termNumbersCard

/-- THE SECOND FORM's CARD OF 'triviumlaw4.TermEscapes'. -/
def termEscapesUptoCard : Claim7 := { stood := { row := termEscapesUptoRow, standIns := [], harness := (true, "062d6e70717079012b6e28d58d290f518de3588c10e415c4e65679dc442f8765"), looks := false }, kinds := [], alts := [], laidByText := true, laidKinds := [.data, .pinned], laidTests := true, laidLooks := .later }
def TermEscapesUptoCardSaid : Prop := Claim7.holds Tryd.pinned (.plain (OpenSpec.upto termEscapesSpec)) termEscapesUptoCard

/-- THE SECOND FORM's CARD OF 'triviumlaw4.TermLangs'. -/
def termLangsUptoCard : Claim7 := { stood := { row := termLangsUptoRow, standIns := [], harness := (true, "062d6e70717079012b6e28d58d290f518de3588c10e415c4e65679dc442f8765"), looks := false }, kinds := [], alts := [], laidByText := true, laidKinds := [.data, .pinned], laidTests := true, laidLooks := .later }
def TermLangsUptoCardSaid : Prop := Claim7.holds Tryd.pinned (.plain (OpenSpec.upto termLangsSpec)) termLangsUptoCard

/-- THE SECOND FORM's CARD OF 'triviumlaw4.TermRunes'. -/
def termRunesUptoCard : Claim7 := { stood := { row := termRunesUptoRow, standIns := [], harness := (true, "062d6e70717079012b6e28d58d290f518de3588c10e415c4e65679dc442f8765"), looks := false }, kinds := [], alts := [], laidByText := true, laidKinds := [.data, .pinned], laidTests := true, laidLooks := .later }
def TermRunesUptoCardSaid : Prop := Claim7.holds Tryd.pinned (.plain (OpenSpec.upto termRunesSpec)) termRunesUptoCard

/-- THE SECOND FORM's CARD OF 'triviumlaw4.TermLong'. -/
def termLongUptoCard : Claim7 := { stood := { row := termLongUptoRow, standIns := [], harness := (true, "062d6e70717079012b6e28d58d290f518de3588c10e415c4e65679dc442f8765"), looks := false }, kinds := [], alts := [], laidByText := true, laidKinds := [.data, .pinned], laidTests := true, laidLooks := .later }
def TermLongUptoCardSaid : Prop := Claim7.holds Tryd.pinned (.plain (OpenSpec.upto termLongSpec)) termLongUptoCard

/-- THE SECOND FORM's CARD OF 'triviumlaw4.TermOne'. -/
def termOneUptoCard : Claim7 := { stood := { row := termOneUptoRow, standIns := [], harness := (true, "062d6e70717079012b6e28d58d290f518de3588c10e415c4e65679dc442f8765"), looks := false }, kinds := [], alts := [], laidByText := true, laidKinds := [.data, .pinned], laidTests := true, laidLooks := .later }
def TermOneUptoCardSaid : Prop := Claim7.holds Tryd.pinned (.plain (OpenSpec.upto termOneSpec)) termOneUptoCard

/-- THE SECOND FORM's CARD OF 'triviumlaw4.TermKinds'. -/
def termKindsUptoCard : Claim7 := { stood := { row := termKindsUptoRow, standIns := [], harness := (true, "062d6e70717079012b6e28d58d290f518de3588c10e415c4e65679dc442f8765"), looks := false }, kinds := [], alts := [], laidByText := true, laidKinds := [.data, .pinned], laidTests := true, laidLooks := .later }
def TermKindsUptoCardSaid : Prop := Claim7.holds Tryd.pinned (.plain (OpenSpec.upto termKindsSpec)) termKindsUptoCard

/-- THE SECOND FORM's CARD OF 'triviumlaw4.TermNumbers'. -/
def termNumbersUptoCard : Claim7 := { stood := { row := termNumbersUptoRow, standIns := [], harness := (true, "062d6e70717079012b6e28d58d290f518de3588c10e415c4e65679dc442f8765"), looks := false }, kinds := [], alts := [], laidByText := true, laidKinds := [.data, .pinned], laidTests := true, laidLooks := .later }
def TermNumbersUptoCardSaid : Prop := Claim7.holds Tryd.pinned (.plain (OpenSpec.upto termNumbersSpec)) termNumbersUptoCard
end Rows
end Go.Proofs.YtmenjcjpihpjjaaDoor
