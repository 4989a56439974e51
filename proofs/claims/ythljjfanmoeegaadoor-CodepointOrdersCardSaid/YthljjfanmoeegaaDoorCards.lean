/-
  DERIVED. GIVEN WITH THE SEED: THE CARDS: each row of YthljjfanmoeegaaDoorRows.lean that lists a variable, with what it lists TIED to the program's text (the seventh form; the later family's looks); each row that meets fmt, with fmt's text TOLD by the authors' own Lean function (tested against real Go, not proved from fmt's source: count such statements apart). THE CARD IS WHAT COUNTS. Prove the row's statement (the work); the ties are given (YthljjfanmoeegaaDoorTie.lean); close each card by the builder's one call (the guide's Derived/Test/ToyasCard.lean, 'card_holds'). Laid BY PROGRAM, IN A SANDBOX (cutbox-door.mjs). By AI agents, Wed Nov 11 2026. No macro, syntax, notation, axiom, sorry.
-/
import Derived.Test.YthljjfanmoeegaaDoorRows
import GoSem.ClaimSeven
namespace Go.Proofs.YthljjfanmoeegaaDoor
namespace Rows

/-- THE TIED CARD OF 'unicodetextlaw01.CodepointDigits'. -/
def codepointDigitsCard : Claim7 := { stood := { row := codepointDigitsRow, standIns := [], harness := (true, "79d99f1517ae8856db7ae87448bc2f49b2d681c9f33eb5185780a181f5580471"), looks := false }, kinds := [], alts := [], laidByText := true, laidKinds := [.data], laidTests := true, laidLooks := .later }
def CodepointDigitsCardSaid : Prop := Claim7.holds Tryd.pinned (.plain (OpenSpec.ofChange codepointDigitsSpec)) codepointDigitsCard

/-- THE TIED CARD OF 'unicodetextlaw01.CodepointParses'. -/
def codepointParsesCard : Claim7 := { stood := { row := codepointParsesRow, standIns := [], harness := (true, "79d99f1517ae8856db7ae87448bc2f49b2d681c9f33eb5185780a181f5580471"), looks := false }, kinds := [], alts := [], laidByText := true, laidKinds := [.data], laidTests := true, laidLooks := .later }
def CodepointParsesCardSaid : Prop := Claim7.holds Tryd.pinned (.plain (OpenSpec.ofChange codepointParsesSpec)) codepointParsesCard

/-- THE TIED CARD OF 'unicodetextlaw01.CodepointPrefixes'. -/
def codepointPrefixesCard : Claim7 := { stood := { row := codepointPrefixesRow, standIns := [], harness := (true, "79d99f1517ae8856db7ae87448bc2f49b2d681c9f33eb5185780a181f5580471"), looks := false }, kinds := [], alts := [], laidByText := true, laidKinds := [.data], laidTests := true, laidLooks := .later }
def CodepointPrefixesCardSaid : Prop := Claim7.holds Tryd.pinned (.plain (OpenSpec.ofChange codepointPrefixesSpec)) codepointPrefixesCard

/-- THE TIED CARD OF 'unicodetextlaw01.CodepointCompares'. -/
def codepointComparesCard : Claim7 := { stood := { row := codepointComparesRow, standIns := [], harness := (true, "79d99f1517ae8856db7ae87448bc2f49b2d681c9f33eb5185780a181f5580471"), looks := false }, kinds := [], alts := [], laidByText := true, laidKinds := [.data], laidTests := true, laidLooks := .later }
def CodepointComparesCardSaid : Prop := Claim7.holds Tryd.pinned (.plain (OpenSpec.ofChange codepointComparesSpec)) codepointComparesCard

/-- THE TIED CARD OF 'unicodetextlaw01.CodepointOrders'. -/
def codepointOrdersCard : Claim7 := { stood := { row := codepointOrdersRow, standIns := [], harness := (true, "79d99f1517ae8856db7ae87448bc2f49b2d681c9f33eb5185780a181f5580471"), looks := false }, kinds := [], alts := [], laidByText := true, laidKinds := [.data], laidTests := true, laidLooks := .later }
def CodepointOrdersCardSaid : Prop := Claim7.holds Tryd.pinned (.plain (OpenSpec.ofChange codepointOrdersSpec)) codepointOrdersCard

/-- THE TIED CARD OF 'unicodetextlaw01.CodepointKinds'. -/
def codepointKindsCard : Claim7 := { stood := { row := codepointKindsRow, standIns := [], harness := (true, "79d99f1517ae8856db7ae87448bc2f49b2d681c9f33eb5185780a181f5580471"), looks := false }, kinds := [], alts := [], laidByText := true, laidKinds := [.data], laidTests := true, laidLooks := .later }
def CodepointKindsCardSaid : Prop := Claim7.holds Tryd.pinned (.plain (OpenSpec.ofChange codepointKindsSpec)) codepointKindsCard

/-- THE TIED CARD OF 'unicodetextlaw01.CodepointScalars'. -/
def codepointScalarsCard : Claim7 := { stood := { row := codepointScalarsRow, standIns := [], harness := (true, "79d99f1517ae8856db7ae87448bc2f49b2d681c9f33eb5185780a181f5580471"), looks := false }, kinds := [], alts := [], laidByText := true, laidKinds := [.data], laidTests := true, laidLooks := .later }
def CodepointScalarsCardSaid : Prop := Claim7.holds Tryd.pinned (.plain (OpenSpec.ofChange codepointScalarsSpec)) codepointScalarsCard

/-- THE SECOND FORM's CARD OF 'unicodetextlaw01.CodepointDigits'. -/
def codepointDigitsUptoCard : Claim7 := { stood := { row := codepointDigitsUptoRow, standIns := [], harness := (true, "79d99f1517ae8856db7ae87448bc2f49b2d681c9f33eb5185780a181f5580471"), looks := false }, kinds := [], alts := [], laidByText := true, laidKinds := [.data], laidTests := true, laidLooks := .later }
def CodepointDigitsUptoCardSaid : Prop := Claim7.holds Tryd.pinned (.plain (OpenSpec.upto codepointDigitsSpec)) codepointDigitsUptoCard

/-- THE SECOND FORM's CARD OF 'unicodetextlaw01.CodepointParses'. -/
def codepointParsesUptoCard : Claim7 := { stood := { row := codepointParsesUptoRow, standIns := [], harness := (true, "79d99f1517ae8856db7ae87448bc2f49b2d681c9f33eb5185780a181f5580471"), looks := false }, kinds := [], alts := [], laidByText := true, laidKinds := [.data], laidTests := true, laidLooks := .later }
def CodepointParsesUptoCardSaid : Prop := Claim7.holds Tryd.pinned (.plain (OpenSpec.upto codepointParsesSpec)) codepointParsesUptoCard

/-- THE SECOND FORM's CARD OF 'unicodetextlaw01.CodepointPrefixes'. -/
def codepointPrefixesUptoCard : Claim7 := { stood := { row := codepointPrefixesUptoRow, standIns := [], harness := (true, "79d99f1517ae8856db7ae87448bc2f49b2d681c9f33eb5185780a181f5580471"), looks := false }, kinds := [], alts := [], laidByText := true, laidKinds := [.data], laidTests := true, laidLooks := .later }
def CodepointPrefixesUptoCardSaid : Prop := Claim7.holds Tryd.pinned (.plain (OpenSpec.upto codepointPrefixesSpec)) codepointPrefixesUptoCard

/-- THE SECOND FORM's CARD OF 'unicodetextlaw01.CodepointCompares'. -/
def codepointComparesUptoCard : Claim7 := { stood := { row := codepointComparesUptoRow, standIns := [], harness := (true, "79d99f1517ae8856db7ae87448bc2f49b2d681c9f33eb5185780a181f5580471"), looks := false }, kinds := [], alts := [], laidByText := true, laidKinds := [.data], laidTests := true, laidLooks := .later }
def CodepointComparesUptoCardSaid : Prop := Claim7.holds Tryd.pinned (.plain (OpenSpec.upto codepointComparesSpec)) codepointComparesUptoCard

/-- THE SECOND FORM's CARD OF 'unicodetextlaw01.CodepointOrders'. -/
def codepointOrdersUptoCard : Claim7 := { stood := { row := codepointOrdersUptoRow, standIns := [], harness := (true, "79d99f1517ae8856db7ae87448bc2f49b2d681c9f33eb5185780a181f5580471"), looks := false }, kinds := [], alts := [], laidByText := true, laidKinds := [.data], laidTests := true, laidLooks := .later }
def CodepointOrdersUptoCardSaid : Prop := Claim7.holds Tryd.pinned (.plain (OpenSpec.upto codepointOrdersSpec)) codepointOrdersUptoCard

/-- THE SECOND FORM's CARD OF 'unicodetextlaw01.CodepointKinds'. -/
def codepointKindsUptoCard : Claim7 := { stood := { row := codepointKindsUptoRow, standIns := [], harness := (true, "79d99f1517ae8856db7ae87448bc2f49b2d681c9f33eb5185780a181f5580471"), looks := false }, kinds := [], alts := [], laidByText := true, laidKinds := [.data], laidTests := true, laidLooks := .later }
def CodepointKindsUptoCardSaid : Prop := Claim7.holds Tryd.pinned (.plain (OpenSpec.upto codepointKindsSpec)) codepointKindsUptoCard

/-- THE SECOND FORM's CARD OF 'unicodetextlaw01.CodepointScalars'. -/
def codepointScalarsUptoCard : Claim7 := { stood := { row := codepointScalarsUptoRow, standIns := [], harness := (true, "79d99f1517ae8856db7ae87448bc2f49b2d681c9f33eb5185780a181f5580471"), looks := false }, kinds := [], alts := [], laidByText := true, laidKinds := [.data], laidTests := true, laidLooks := .later }
def CodepointScalarsUptoCardSaid : Prop := Claim7.holds Tryd.pinned (.plain (OpenSpec.upto codepointScalarsSpec)) codepointScalarsUptoCard
end Rows
end Go.Proofs.YthljjfanmoeegaaDoor
