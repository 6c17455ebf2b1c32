/-
  DERIVED. GIVEN WITH THE SEED: THE CARDS: each row of YtoekhpnapnhefaaGreatDoorRows.lean that lists a variable, with what it lists TIED to the program's text (the seventh form; the later family's looks); each row that meets fmt, with fmt's text TOLD by the authors' own Lean function (tested against real Go, not proved from fmt's source: count such statements apart). THE CARD IS WHAT COUNTS. Prove the row's statement (the work); the ties are given (YtoekhpnapnhefaaGreatDoorTie.lean); close each card by the builder's one call (the guide's Derived/Test/ToyasCard.lean, 'card_holds'). Laid BY PROGRAM, IN A SANDBOX (cutbox-door.mjs). By AI agents, Wed Nov 11 2026. No macro, syntax, notation, axiom, sorry.
-/
import Derived.Test.YtoekhpnapnhefaaGreatDoorRows
import GoSem.ClaimSeven
namespace Go.Proofs.YtoekhpnapnhefaaGreatDoor
namespace Rows

/-- THE TIED CARD OF 'sorteslaw07.DealHonest'. -/
def dealHonestCard : Claim7 := { stood := { row := dealHonestRow, standIns := [], harness := (true, "44f382dd2dd3080e16cbbc4abe30fcc36a8b015652a46e5408c7a8228ecf327a"), looks := true }, kinds := [], alts := [], laidByText := true, laidKinds := [.data, .data, .data], laidTests := true, laidLooks := .later }
def DealHonestCardSaid : Prop := Claim7.holds Tryz.pinned (.plain (OpenSpec.ofChange dealHonestSpec)) dealHonestCard

/-- THE TIED CARD OF 'sorteslaw07.DealGuilty'. -/
def dealGuiltyCard : Claim7 := { stood := { row := dealGuiltyRow, standIns := [], harness := (true, "44f382dd2dd3080e16cbbc4abe30fcc36a8b015652a46e5408c7a8228ecf327a"), looks := true }, kinds := [], alts := [], laidByText := true, laidKinds := [.data, .data, .data], laidTests := true, laidLooks := .later }
def DealGuiltyCardSaid : Prop := Claim7.holds Tryz.pinned (.plain (OpenSpec.ofChange dealGuiltySpec)) dealGuiltyCard

/-- THE TIED CARD OF 'sorteslaw06.EqualProves'. -/
def equalProvesCard : Claim7 := { stood := { row := equalProvesRow, standIns := [], harness := (true, "44f382dd2dd3080e16cbbc4abe30fcc36a8b015652a46e5408c7a8228ecf327a"), looks := true }, kinds := [], alts := [], laidByText := true, laidKinds := [.data, .data, .data, .sentinel, .sentinel], laidTests := true, laidLooks := .later }
def EqualProvesCardSaid : Prop := Claim7.holds Tryz.pinned (.plain (OpenSpec.ofChange equalProvesSpec)) equalProvesCard

/-- THE TIED CARD OF 'sorteslaw06.EqualMany'. -/
def equalManyCard : Claim7 := { stood := { row := equalManyRow, standIns := [], harness := (true, "44f382dd2dd3080e16cbbc4abe30fcc36a8b015652a46e5408c7a8228ecf327a"), looks := true }, kinds := [], alts := [], laidByText := true, laidKinds := [.data, .data, .data, .sentinel, .sentinel], laidTests := true, laidLooks := .later }
def EqualManyCardSaid : Prop := Claim7.holds Tryz.pinned (.plain (OpenSpec.ofChange equalManySpec)) equalManyCard

/-- THE TIED CARD OF 'sorteslaw06.EqualChecks'. -/
def equalChecksCard : Claim7 := { stood := { row := equalChecksRow, standIns := [], harness := (true, "44f382dd2dd3080e16cbbc4abe30fcc36a8b015652a46e5408c7a8228ecf327a"), looks := true }, kinds := [], alts := [], laidByText := true, laidKinds := [.data, .data, .data, .sentinel, .sentinel], laidTests := true, laidLooks := .later }
def EqualChecksCardSaid : Prop := Claim7.holds Tryz.pinned (.plain (OpenSpec.ofChange equalChecksSpec)) equalChecksCard

/-- THE TIED CARD OF 'sorteslaw06.EqualFalse'. -/
def equalFalseCard : Claim7 := { stood := { row := equalFalseRow, standIns := [], harness := (true, "44f382dd2dd3080e16cbbc4abe30fcc36a8b015652a46e5408c7a8228ecf327a"), looks := true }, kinds := [], alts := [], laidByText := true, laidKinds := [.data, .data, .data, .sentinel, .sentinel], laidTests := true, laidLooks := .later }
def EqualFalseCardSaid : Prop := Claim7.holds Tryz.pinned (.plain (OpenSpec.ofChange equalFalseSpec)) equalFalseCard

/-- THE TIED CARD OF 'sorteslaw05.SignOrder'. -/
def signOrderCard : Claim7 := { stood := { row := signOrderRow, standIns := [], harness := (true, "44f382dd2dd3080e16cbbc4abe30fcc36a8b015652a46e5408c7a8228ecf327a"), looks := true }, kinds := [], alts := [], laidByText := true, laidKinds := [.data, .data, .data, .sentinel, .sentinel], laidTests := true, laidLooks := .later }
def SignOrderCardSaid : Prop := Claim7.holds Tryz.pinned (.plain (OpenSpec.ofChange signOrderSpec)) signOrderCard

/-- THE TIED CARD OF 'sorteslaw07.DealTexts'. -/
def dealTextsCard : Claim7 := { stood := { row := dealTextsRow, standIns := [], harness := (true, "44f382dd2dd3080e16cbbc4abe30fcc36a8b015652a46e5408c7a8228ecf327a"), looks := true }, kinds := [], alts := [], laidByText := true, laidKinds := [.data, .data, .data, .data, .sentinel, .sentinel, .pinned], laidTests := true, laidLooks := .later }
def DealTextsCardSaid : Prop := Claim7.holds Tryz.pinned (.plain (OpenSpec.ofChange dealTextsSpec)) dealTextsCard

/-- THE TIED CARD OF 'sorteslaw07.DealKeeps'. -/
def dealKeepsCard : Claim7 := { stood := { row := dealKeepsRow, standIns := [], harness := (true, "44f382dd2dd3080e16cbbc4abe30fcc36a8b015652a46e5408c7a8228ecf327a"), looks := true }, kinds := [], alts := [], laidByText := true, laidKinds := [.data, .data, .data, .data, .sentinel, .sentinel, .pinned], laidTests := true, laidLooks := .later }
def DealKeepsCardSaid : Prop := Claim7.holds Tryz.pinned (.plain (OpenSpec.ofChange dealKeepsSpec)) dealKeepsCard

/-- THE SECOND FORM's CARD OF 'sorteslaw07.DealHonest'. -/
def dealHonestUptoCard : Claim7 := { stood := { row := dealHonestUptoRow, standIns := [], harness := (true, "44f382dd2dd3080e16cbbc4abe30fcc36a8b015652a46e5408c7a8228ecf327a"), looks := true }, kinds := [], alts := [], laidByText := true, laidKinds := [.data, .data, .data], laidTests := true, laidLooks := .later }
def DealHonestUptoCardSaid : Prop := Claim7.holds Tryz.pinned (.plain (OpenSpec.upto dealHonestSpec)) dealHonestUptoCard

/-- THE SECOND FORM's CARD OF 'sorteslaw07.DealGuilty'. -/
def dealGuiltyUptoCard : Claim7 := { stood := { row := dealGuiltyUptoRow, standIns := [], harness := (true, "44f382dd2dd3080e16cbbc4abe30fcc36a8b015652a46e5408c7a8228ecf327a"), looks := true }, kinds := [], alts := [], laidByText := true, laidKinds := [.data, .data, .data], laidTests := true, laidLooks := .later }
def DealGuiltyUptoCardSaid : Prop := Claim7.holds Tryz.pinned (.plain (OpenSpec.upto dealGuiltySpec)) dealGuiltyUptoCard

/-- THE SECOND FORM's CARD OF 'sorteslaw06.EqualProves'. -/
def equalProvesUptoCard : Claim7 := { stood := { row := equalProvesUptoRow, standIns := [], harness := (true, "44f382dd2dd3080e16cbbc4abe30fcc36a8b015652a46e5408c7a8228ecf327a"), looks := true }, kinds := [], alts := [], laidByText := true, laidKinds := [.data, .data, .data, .sentinel, .sentinel], laidTests := true, laidLooks := .later }
def EqualProvesUptoCardSaid : Prop := Claim7.holds Tryz.pinned (.plain (OpenSpec.upto equalProvesSpec)) equalProvesUptoCard

/-- THE SECOND FORM's CARD OF 'sorteslaw06.EqualMany'. -/
def equalManyUptoCard : Claim7 := { stood := { row := equalManyUptoRow, standIns := [], harness := (true, "44f382dd2dd3080e16cbbc4abe30fcc36a8b015652a46e5408c7a8228ecf327a"), looks := true }, kinds := [], alts := [], laidByText := true, laidKinds := [.data, .data, .data, .sentinel, .sentinel], laidTests := true, laidLooks := .later }
def EqualManyUptoCardSaid : Prop := Claim7.holds Tryz.pinned (.plain (OpenSpec.upto equalManySpec)) equalManyUptoCard

/-- THE SECOND FORM's CARD OF 'sorteslaw06.EqualChecks'. -/
def equalChecksUptoCard : Claim7 := { stood := { row := equalChecksUptoRow, standIns := [], harness := (true, "44f382dd2dd3080e16cbbc4abe30fcc36a8b015652a46e5408c7a8228ecf327a"), looks := true }, kinds := [], alts := [], laidByText := true, laidKinds := [.data, .data, .data, .sentinel, .sentinel], laidTests := true, laidLooks := .later }
def EqualChecksUptoCardSaid : Prop := Claim7.holds Tryz.pinned (.plain (OpenSpec.upto equalChecksSpec)) equalChecksUptoCard

/-- THE SECOND FORM's CARD OF 'sorteslaw06.EqualFalse'. -/
def equalFalseUptoCard : Claim7 := { stood := { row := equalFalseUptoRow, standIns := [], harness := (true, "44f382dd2dd3080e16cbbc4abe30fcc36a8b015652a46e5408c7a8228ecf327a"), looks := true }, kinds := [], alts := [], laidByText := true, laidKinds := [.data, .data, .data, .sentinel, .sentinel], laidTests := true, laidLooks := .later }
def EqualFalseUptoCardSaid : Prop := Claim7.holds Tryz.pinned (.plain (OpenSpec.upto equalFalseSpec)) equalFalseUptoCard

/-- THE SECOND FORM's CARD OF 'sorteslaw05.SignOrder'. -/
def signOrderUptoCard : Claim7 := { stood := { row := signOrderUptoRow, standIns := [], harness := (true, "44f382dd2dd3080e16cbbc4abe30fcc36a8b015652a46e5408c7a8228ecf327a"), looks := true }, kinds := [], alts := [], laidByText := true, laidKinds := [.data, .data, .data, .sentinel, .sentinel], laidTests := true, laidLooks := .later }
def SignOrderUptoCardSaid : Prop := Claim7.holds Tryz.pinned (.plain (OpenSpec.upto signOrderSpec)) signOrderUptoCard

/-- THE SECOND FORM's CARD OF 'sorteslaw07.DealTexts'. -/
def dealTextsUptoCard : Claim7 := { stood := { row := dealTextsUptoRow, standIns := [], harness := (true, "44f382dd2dd3080e16cbbc4abe30fcc36a8b015652a46e5408c7a8228ecf327a"), looks := true }, kinds := [], alts := [], laidByText := true, laidKinds := [.data, .data, .data, .data, .sentinel, .sentinel, .pinned], laidTests := true, laidLooks := .later }
def DealTextsUptoCardSaid : Prop := Claim7.holds Tryz.pinned (.plain (OpenSpec.upto dealTextsSpec)) dealTextsUptoCard

/-- THE SECOND FORM's CARD OF 'sorteslaw07.DealKeeps'. -/
def dealKeepsUptoCard : Claim7 := { stood := { row := dealKeepsUptoRow, standIns := [], harness := (true, "44f382dd2dd3080e16cbbc4abe30fcc36a8b015652a46e5408c7a8228ecf327a"), looks := true }, kinds := [], alts := [], laidByText := true, laidKinds := [.data, .data, .data, .data, .sentinel, .sentinel, .pinned], laidTests := true, laidLooks := .later }
def DealKeepsUptoCardSaid : Prop := Claim7.holds Tryz.pinned (.plain (OpenSpec.upto dealKeepsSpec)) dealKeepsUptoCard
end Rows
end Go.Proofs.YtoekhpnapnhefaaGreatDoor
