/-
  DERIVED. GIVEN WITH THE SEED: THE CARDS: each row of YtoekhpnapnhefaaDoorRows.lean that lists a variable, with what it lists TIED to the program's text (the seventh form; the later family's looks); each row that meets fmt, with fmt's text TOLD by the authors' own Lean function (tested against real Go, not proved from fmt's source: count such statements apart). THE CARD IS WHAT COUNTS. Prove the row's statement (the work); the ties are given (YtoekhpnapnhefaaDoorTie.lean); close each card by the builder's one call (the guide's Derived/Test/ToyasCard.lean, 'card_holds'). Laid BY PROGRAM, IN A SANDBOX (cutbox-door.mjs). By AI agents, Wed Nov 11 2026. No macro, syntax, notation, axiom, sorry.
-/
import Derived.Test.YtoekhpnapnhefaaDoorRows
import GoSem.ClaimSeven
namespace Go.Proofs.YtoekhpnapnhefaaDoor
namespace Rows

/-- THE TIED CARD OF 'sorteslaw07.DealJoins'. -/
def dealJoinsCard : Claim7 := { stood := { row := dealJoinsRow, standIns := [], harness := (true, "5734c15b2dff79e7970c60b62519ddb865f014e12fb2caf4101a68905f2bd0dd"), looks := true }, kinds := [], alts := [], laidByText := true, laidKinds := [.data, .data, .data], laidTests := true, laidLooks := .later }
def DealJoinsCardSaid : Prop := Claim7.holds Tryd.pinned (.plain (OpenSpec.ofChange dealJoinsSpec)) dealJoinsCard

/-- THE TIED CARD OF 'sorteslaw07.DealValues'. -/
def dealValuesCard : Claim7 := { stood := { row := dealValuesRow, standIns := [], harness := (true, "5734c15b2dff79e7970c60b62519ddb865f014e12fb2caf4101a68905f2bd0dd"), looks := true }, kinds := [], alts := [], laidByText := true, laidKinds := [.data, .data, .data], laidTests := true, laidLooks := .later }
def DealValuesCardSaid : Prop := Claim7.holds Tryd.pinned (.plain (OpenSpec.ofChange dealValuesSpec)) dealValuesCard

/-- THE TIED CARD OF 'sorteslaw07.DealDeals'. -/
def dealDealsCard : Claim7 := { stood := { row := dealDealsRow, standIns := [], harness := (true, "5734c15b2dff79e7970c60b62519ddb865f014e12fb2caf4101a68905f2bd0dd"), looks := true }, kinds := [], alts := [], laidByText := true, laidKinds := [.data, .data, .data], laidTests := true, laidLooks := .later }
def DealDealsCardSaid : Prop := Claim7.holds Tryd.pinned (.plain (OpenSpec.ofChange dealDealsSpec)) dealDealsCard

/-- THE TIED CARD OF 'sorteslaw05.SignTexts'. -/
def signTextsCard : Claim7 := { stood := { row := signTextsRow, standIns := [], harness := (true, "5734c15b2dff79e7970c60b62519ddb865f014e12fb2caf4101a68905f2bd0dd"), looks := true }, kinds := [], alts := [], laidByText := true, laidKinds := [.data, .data, .data, .sentinel, .sentinel], laidTests := true, laidLooks := .later }
def SignTextsCardSaid : Prop := Claim7.holds Tryd.pinned (.plain (OpenSpec.ofChange signTextsSpec)) signTextsCard

/-- THE TIED CARD OF 'sorteslaw06.EqualTexts'. -/
def equalTextsCard : Claim7 := { stood := { row := equalTextsRow, standIns := [], harness := (true, "5734c15b2dff79e7970c60b62519ddb865f014e12fb2caf4101a68905f2bd0dd"), looks := true }, kinds := [], alts := [], laidByText := true, laidKinds := [.data, .data, .data, .sentinel, .sentinel], laidTests := true, laidLooks := .later }
def EqualTextsCardSaid : Prop := Claim7.holds Tryd.pinned (.plain (OpenSpec.ofChange equalTextsSpec)) equalTextsCard

/-- THE SECOND FORM's CARD OF 'sorteslaw07.DealJoins'. -/
def dealJoinsUptoCard : Claim7 := { stood := { row := dealJoinsUptoRow, standIns := [], harness := (true, "5734c15b2dff79e7970c60b62519ddb865f014e12fb2caf4101a68905f2bd0dd"), looks := true }, kinds := [], alts := [], laidByText := true, laidKinds := [.data, .data, .data], laidTests := true, laidLooks := .later }
def DealJoinsUptoCardSaid : Prop := Claim7.holds Tryd.pinned (.plain (OpenSpec.upto dealJoinsSpec)) dealJoinsUptoCard

/-- THE SECOND FORM's CARD OF 'sorteslaw07.DealValues'. -/
def dealValuesUptoCard : Claim7 := { stood := { row := dealValuesUptoRow, standIns := [], harness := (true, "5734c15b2dff79e7970c60b62519ddb865f014e12fb2caf4101a68905f2bd0dd"), looks := true }, kinds := [], alts := [], laidByText := true, laidKinds := [.data, .data, .data], laidTests := true, laidLooks := .later }
def DealValuesUptoCardSaid : Prop := Claim7.holds Tryd.pinned (.plain (OpenSpec.upto dealValuesSpec)) dealValuesUptoCard

/-- THE SECOND FORM's CARD OF 'sorteslaw07.DealDeals'. -/
def dealDealsUptoCard : Claim7 := { stood := { row := dealDealsUptoRow, standIns := [], harness := (true, "5734c15b2dff79e7970c60b62519ddb865f014e12fb2caf4101a68905f2bd0dd"), looks := true }, kinds := [], alts := [], laidByText := true, laidKinds := [.data, .data, .data], laidTests := true, laidLooks := .later }
def DealDealsUptoCardSaid : Prop := Claim7.holds Tryd.pinned (.plain (OpenSpec.upto dealDealsSpec)) dealDealsUptoCard

/-- THE SECOND FORM's CARD OF 'sorteslaw05.SignTexts'. -/
def signTextsUptoCard : Claim7 := { stood := { row := signTextsUptoRow, standIns := [], harness := (true, "5734c15b2dff79e7970c60b62519ddb865f014e12fb2caf4101a68905f2bd0dd"), looks := true }, kinds := [], alts := [], laidByText := true, laidKinds := [.data, .data, .data, .sentinel, .sentinel], laidTests := true, laidLooks := .later }
def SignTextsUptoCardSaid : Prop := Claim7.holds Tryd.pinned (.plain (OpenSpec.upto signTextsSpec)) signTextsUptoCard

/-- THE SECOND FORM's CARD OF 'sorteslaw06.EqualTexts'. -/
def equalTextsUptoCard : Claim7 := { stood := { row := equalTextsUptoRow, standIns := [], harness := (true, "5734c15b2dff79e7970c60b62519ddb865f014e12fb2caf4101a68905f2bd0dd"), looks := true }, kinds := [], alts := [], laidByText := true, laidKinds := [.data, .data, .data, .sentinel, .sentinel], laidTests := true, laidLooks := .later }
def EqualTextsUptoCardSaid : Prop := Claim7.holds Tryd.pinned (.plain (OpenSpec.upto equalTextsSpec)) equalTextsUptoCard
end Rows
end Go.Proofs.YtoekhpnapnhefaaDoor
