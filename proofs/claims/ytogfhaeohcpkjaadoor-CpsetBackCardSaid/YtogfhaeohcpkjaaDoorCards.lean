/-
  DERIVED. GIVEN WITH THE SEED: THE CARDS: each row of YtogfhaeohcpkjaaDoorRows.lean that lists a variable, with what it lists TIED to the program's text (the seventh form; the later family's looks); each row that meets fmt, with fmt's text TOLD by the authors' own Lean function (tested against real Go, not proved from fmt's source: count such statements apart). THE CARD IS WHAT COUNTS. Prove the row's statement (the work); the ties are given (YtogfhaeohcpkjaaDoorTie.lean); close each card by the builder's one call (the guide's Derived/Test/ToyasCard.lean, 'card_holds'). Laid BY PROGRAM, IN A SANDBOX (cutbox-door.mjs). By AI agents, Wed Nov 11 2026. No macro, syntax, notation, axiom, sorry.
-/
import Derived.Test.YtogfhaeohcpkjaaDoorRows
import GoSem.ClaimSeven
namespace Go.Proofs.YtogfhaeohcpkjaaDoor
namespace Rows

/-- THE TIED CARD OF 'unicodetextlaw02.CpsetPoints'. -/
def cpsetPointsCard : Claim7 := { stood := { row := cpsetPointsRow, standIns := [], harness := (true, "5e8dd04980d0e8a67c725102296af9c2d98807c50ca5bbbf8966c4053b79937d"), looks := false }, kinds := [], alts := [], laidByText := true, laidKinds := [.data, .data, .pinned], laidTests := true, laidLooks := .later }
def CpsetPointsCardSaid : Prop := Claim7.holds Tryd.pinned (.plain (OpenSpec.ofChange cpsetPointsSpec)) cpsetPointsCard

/-- THE TIED CARD OF 'unicodetextlaw02.CpsetEnumerates'. -/
def cpsetEnumeratesCard : Claim7 := { stood := { row := cpsetEnumeratesRow, standIns := [], harness := (true, "5e8dd04980d0e8a67c725102296af9c2d98807c50ca5bbbf8966c4053b79937d"), looks := false }, kinds := [], alts := [], laidByText := true, laidKinds := [.data, .data, .pinned], laidTests := true, laidLooks := .later }
def CpsetEnumeratesCardSaid : Prop := Claim7.holds Tryd.pinned (.plain (OpenSpec.ofChange cpsetEnumeratesSpec)) cpsetEnumeratesCard

/-- THE TIED CARD OF 'unicodetextlaw02.CpsetTexts'. -/
def cpsetTextsCard : Claim7 := { stood := { row := cpsetTextsRow, standIns := [], harness := (true, "5e8dd04980d0e8a67c725102296af9c2d98807c50ca5bbbf8966c4053b79937d"), looks := false }, kinds := [], alts := [], laidByText := true, laidKinds := [.data, .data, .pinned], laidTests := true, laidLooks := .later }
def CpsetTextsCardSaid : Prop := Claim7.holds Tryd.pinned (.plain (OpenSpec.ofChange cpsetTextsSpec)) cpsetTextsCard

/-- THE TIED CARD OF 'unicodetextlaw02.CpsetAlgebra'. -/
def cpsetAlgebraCard : Claim7 := { stood := { row := cpsetAlgebraRow, standIns := [], harness := (true, "5e8dd04980d0e8a67c725102296af9c2d98807c50ca5bbbf8966c4053b79937d"), looks := false }, kinds := [], alts := [], laidByText := true, laidKinds := [.data, .data, .pinned], laidTests := true, laidLooks := .later }
def CpsetAlgebraCardSaid : Prop := Claim7.holds Tryd.pinned (.plain (OpenSpec.ofChange cpsetAlgebraSpec)) cpsetAlgebraCard

/-- THE TIED CARD OF 'unicodetextlaw02.CpsetHas'. -/
def cpsetHasCard : Claim7 := { stood := { row := cpsetHasRow, standIns := [], harness := (true, "5e8dd04980d0e8a67c725102296af9c2d98807c50ca5bbbf8966c4053b79937d"), looks := false }, kinds := [], alts := [], laidByText := true, laidKinds := [.data, .data, .pinned], laidTests := true, laidLooks := .later }
def CpsetHasCardSaid : Prop := Claim7.holds Tryd.pinned (.plain (OpenSpec.ofChange cpsetHasSpec)) cpsetHasCard

/-- THE TIED CARD OF 'unicodetextlaw02.CpsetMakes'. -/
def cpsetMakesCard : Claim7 := { stood := { row := cpsetMakesRow, standIns := [], harness := (true, "5e8dd04980d0e8a67c725102296af9c2d98807c50ca5bbbf8966c4053b79937d"), looks := false }, kinds := [], alts := [], laidByText := true, laidKinds := [.data, .data, .pinned], laidTests := true, laidLooks := .later }
def CpsetMakesCardSaid : Prop := Claim7.holds Tryd.pinned (.plain (OpenSpec.ofChange cpsetMakesSpec)) cpsetMakesCard

/-- THE TIED CARD OF 'unicodetextlaw02.CpsetOperates'. -/
def cpsetOperatesCard : Claim7 := { stood := { row := cpsetOperatesRow, standIns := [], harness := (true, "5e8dd04980d0e8a67c725102296af9c2d98807c50ca5bbbf8966c4053b79937d"), looks := false }, kinds := [], alts := [], laidByText := true, laidKinds := [.data, .data, .pinned], laidTests := true, laidLooks := .later }
def CpsetOperatesCardSaid : Prop := Claim7.holds Tryd.pinned (.plain (OpenSpec.ofChange cpsetOperatesSpec)) cpsetOperatesCard

/-- THE TIED CARD OF 'unicodetextlaw02.CpsetOrders'. -/
def cpsetOrdersCard : Claim7 := { stood := { row := cpsetOrdersRow, standIns := [], harness := (true, "5e8dd04980d0e8a67c725102296af9c2d98807c50ca5bbbf8966c4053b79937d"), looks := false }, kinds := [], alts := [], laidByText := true, laidKinds := [.data, .data, .pinned], laidTests := true, laidLooks := .later }
def CpsetOrdersCardSaid : Prop := Claim7.holds Tryd.pinned (.plain (OpenSpec.ofChange cpsetOrdersSpec)) cpsetOrdersCard

/-- THE TIED CARD OF 'unicodetextlaw02.CpsetBack'. -/
def cpsetBackCard : Claim7 := { stood := { row := cpsetBackRow, standIns := [], harness := (true, "5e8dd04980d0e8a67c725102296af9c2d98807c50ca5bbbf8966c4053b79937d"), looks := false }, kinds := [], alts := [], laidByText := true, laidKinds := [.data, .data, .pinned], laidTests := true, laidLooks := .later }
def CpsetBackCardSaid : Prop := Claim7.holds Tryd.pinned (.plain (OpenSpec.ofChange cpsetBackSpec)) cpsetBackCard

/-- THE TIED CARD OF 'unicodetextlaw02.CpsetCounts'. -/
def cpsetCountsCard : Claim7 := { stood := { row := cpsetCountsRow, standIns := [], harness := (true, "5e8dd04980d0e8a67c725102296af9c2d98807c50ca5bbbf8966c4053b79937d"), looks := false }, kinds := [], alts := [], laidByText := true, laidKinds := [.data, .data, .pinned], laidTests := true, laidLooks := .later }
def CpsetCountsCardSaid : Prop := Claim7.holds Tryd.pinned (.plain (OpenSpec.ofChange cpsetCountsSpec)) cpsetCountsCard

/-- THE SECOND FORM's CARD OF 'unicodetextlaw02.CpsetPoints'. -/
def cpsetPointsUptoCard : Claim7 := { stood := { row := cpsetPointsUptoRow, standIns := [], harness := (true, "5e8dd04980d0e8a67c725102296af9c2d98807c50ca5bbbf8966c4053b79937d"), looks := false }, kinds := [], alts := [], laidByText := true, laidKinds := [.data, .data, .pinned], laidTests := true, laidLooks := .later }
def CpsetPointsUptoCardSaid : Prop := Claim7.holds Tryd.pinned (.plain (OpenSpec.upto cpsetPointsSpec)) cpsetPointsUptoCard

/-- THE SECOND FORM's CARD OF 'unicodetextlaw02.CpsetEnumerates'. -/
def cpsetEnumeratesUptoCard : Claim7 := { stood := { row := cpsetEnumeratesUptoRow, standIns := [], harness := (true, "5e8dd04980d0e8a67c725102296af9c2d98807c50ca5bbbf8966c4053b79937d"), looks := false }, kinds := [], alts := [], laidByText := true, laidKinds := [.data, .data, .pinned], laidTests := true, laidLooks := .later }
def CpsetEnumeratesUptoCardSaid : Prop := Claim7.holds Tryd.pinned (.plain (OpenSpec.upto cpsetEnumeratesSpec)) cpsetEnumeratesUptoCard

/-- THE SECOND FORM's CARD OF 'unicodetextlaw02.CpsetTexts'. -/
def cpsetTextsUptoCard : Claim7 := { stood := { row := cpsetTextsUptoRow, standIns := [], harness := (true, "5e8dd04980d0e8a67c725102296af9c2d98807c50ca5bbbf8966c4053b79937d"), looks := false }, kinds := [], alts := [], laidByText := true, laidKinds := [.data, .data, .pinned], laidTests := true, laidLooks := .later }
def CpsetTextsUptoCardSaid : Prop := Claim7.holds Tryd.pinned (.plain (OpenSpec.upto cpsetTextsSpec)) cpsetTextsUptoCard

/-- THE SECOND FORM's CARD OF 'unicodetextlaw02.CpsetAlgebra'. -/
def cpsetAlgebraUptoCard : Claim7 := { stood := { row := cpsetAlgebraUptoRow, standIns := [], harness := (true, "5e8dd04980d0e8a67c725102296af9c2d98807c50ca5bbbf8966c4053b79937d"), looks := false }, kinds := [], alts := [], laidByText := true, laidKinds := [.data, .data, .pinned], laidTests := true, laidLooks := .later }
def CpsetAlgebraUptoCardSaid : Prop := Claim7.holds Tryd.pinned (.plain (OpenSpec.upto cpsetAlgebraSpec)) cpsetAlgebraUptoCard

/-- THE SECOND FORM's CARD OF 'unicodetextlaw02.CpsetHas'. -/
def cpsetHasUptoCard : Claim7 := { stood := { row := cpsetHasUptoRow, standIns := [], harness := (true, "5e8dd04980d0e8a67c725102296af9c2d98807c50ca5bbbf8966c4053b79937d"), looks := false }, kinds := [], alts := [], laidByText := true, laidKinds := [.data, .data, .pinned], laidTests := true, laidLooks := .later }
def CpsetHasUptoCardSaid : Prop := Claim7.holds Tryd.pinned (.plain (OpenSpec.upto cpsetHasSpec)) cpsetHasUptoCard

/-- THE SECOND FORM's CARD OF 'unicodetextlaw02.CpsetMakes'. -/
def cpsetMakesUptoCard : Claim7 := { stood := { row := cpsetMakesUptoRow, standIns := [], harness := (true, "5e8dd04980d0e8a67c725102296af9c2d98807c50ca5bbbf8966c4053b79937d"), looks := false }, kinds := [], alts := [], laidByText := true, laidKinds := [.data, .data, .pinned], laidTests := true, laidLooks := .later }
def CpsetMakesUptoCardSaid : Prop := Claim7.holds Tryd.pinned (.plain (OpenSpec.upto cpsetMakesSpec)) cpsetMakesUptoCard

/-- THE SECOND FORM's CARD OF 'unicodetextlaw02.CpsetOperates'. -/
def cpsetOperatesUptoCard : Claim7 := { stood := { row := cpsetOperatesUptoRow, standIns := [], harness := (true, "5e8dd04980d0e8a67c725102296af9c2d98807c50ca5bbbf8966c4053b79937d"), looks := false }, kinds := [], alts := [], laidByText := true, laidKinds := [.data, .data, .pinned], laidTests := true, laidLooks := .later }
def CpsetOperatesUptoCardSaid : Prop := Claim7.holds Tryd.pinned (.plain (OpenSpec.upto cpsetOperatesSpec)) cpsetOperatesUptoCard

/-- THE SECOND FORM's CARD OF 'unicodetextlaw02.CpsetOrders'. -/
def cpsetOrdersUptoCard : Claim7 := { stood := { row := cpsetOrdersUptoRow, standIns := [], harness := (true, "5e8dd04980d0e8a67c725102296af9c2d98807c50ca5bbbf8966c4053b79937d"), looks := false }, kinds := [], alts := [], laidByText := true, laidKinds := [.data, .data, .pinned], laidTests := true, laidLooks := .later }
def CpsetOrdersUptoCardSaid : Prop := Claim7.holds Tryd.pinned (.plain (OpenSpec.upto cpsetOrdersSpec)) cpsetOrdersUptoCard

/-- THE SECOND FORM's CARD OF 'unicodetextlaw02.CpsetBack'. -/
def cpsetBackUptoCard : Claim7 := { stood := { row := cpsetBackUptoRow, standIns := [], harness := (true, "5e8dd04980d0e8a67c725102296af9c2d98807c50ca5bbbf8966c4053b79937d"), looks := false }, kinds := [], alts := [], laidByText := true, laidKinds := [.data, .data, .pinned], laidTests := true, laidLooks := .later }
def CpsetBackUptoCardSaid : Prop := Claim7.holds Tryd.pinned (.plain (OpenSpec.upto cpsetBackSpec)) cpsetBackUptoCard

/-- THE SECOND FORM's CARD OF 'unicodetextlaw02.CpsetCounts'. -/
def cpsetCountsUptoCard : Claim7 := { stood := { row := cpsetCountsUptoRow, standIns := [], harness := (true, "5e8dd04980d0e8a67c725102296af9c2d98807c50ca5bbbf8966c4053b79937d"), looks := false }, kinds := [], alts := [], laidByText := true, laidKinds := [.data, .data, .pinned], laidTests := true, laidLooks := .later }
def CpsetCountsUptoCardSaid : Prop := Claim7.holds Tryd.pinned (.plain (OpenSpec.upto cpsetCountsSpec)) cpsetCountsUptoCard
end Rows
end Go.Proofs.YtogfhaeohcpkjaaDoor
