/-
  DERIVED. GIVEN WITH THE SEED: THE CARDS: each row of YtkjbakmlonpdjaaGreatDoorRows.lean that lists a variable, with what it lists TIED to the program's text (the seventh form; the later family's looks); each row that meets fmt, with fmt's text TOLD by the authors' own Lean function (tested against real Go, not proved from fmt's source: count such statements apart). THE CARD IS WHAT COUNTS. Prove the row's statement (the work); the ties are given (YtkjbakmlonpdjaaGreatDoorTie.lean); close each card by the builder's one call (the guide's Derived/Test/ToyasCard.lean, 'card_holds'). Laid BY PROGRAM, IN A SANDBOX (cutbox-door.mjs). By AI agents, Wed Nov 11 2026. No macro, syntax, notation, axiom, sorry.
-/
import Derived.Test.YtkjbakmlonpdjaaGreatDoorRows
import GoSem.ClaimSeven
namespace Go.Proofs.YtkjbakmlonpdjaaGreatDoor
namespace Rows

/-- THE TIED CARD OF 'ectypelaw09.FixInvariant'. -/
def fixInvariantCard : Claim7 := { stood := { row := fixInvariantRow, standIns := [], harness := (true, "c1d4ddd4f3cb4e43dffdcf47013e0f9a8dbe1fcf753834db3f30a4dc6b8cde4b"), looks := true }, kinds := [], alts := [], laidByText := true, laidKinds := [.data], laidTests := true, laidLooks := .later }
def FixInvariantCardSaid : Prop := Claim7.holds Tryz.pinned (.plain (OpenSpec.ofChange fixInvariantSpec)) fixInvariantCard

/-- THE TIED CARD OF 'ectypelaw09.FixReach'. -/
def fixReachCard : Claim7 := { stood := { row := fixReachRow, standIns := [], harness := (true, "c1d4ddd4f3cb4e43dffdcf47013e0f9a8dbe1fcf753834db3f30a4dc6b8cde4b"), looks := true }, kinds := [], alts := [], laidByText := true, laidKinds := [.data], laidTests := true, laidLooks := .later }
def FixReachCardSaid : Prop := Claim7.holds Tryz.pinned (.plain (OpenSpec.ofChange fixReachSpec)) fixReachCard

/-- THE TIED CARD OF 'ectypelaw09.FixOperators'. -/
def fixOperatorsCard : Claim7 := { stood := { row := fixOperatorsRow, standIns := [], harness := (true, "c1d4ddd4f3cb4e43dffdcf47013e0f9a8dbe1fcf753834db3f30a4dc6b8cde4b"), looks := true }, kinds := [], alts := [], laidByText := true, laidKinds := [.data], laidTests := true, laidLooks := .later }
def FixOperatorsCardSaid : Prop := Claim7.holds Tryz.pinned (.plain (OpenSpec.ofChange fixOperatorsSpec)) fixOperatorsCard

/-- THE TIED CARD OF 'ectypelaw09.FixDuals'. -/
def fixDualsCard : Claim7 := { stood := { row := fixDualsRow, standIns := [], harness := (true, "c1d4ddd4f3cb4e43dffdcf47013e0f9a8dbe1fcf753834db3f30a4dc6b8cde4b"), looks := true }, kinds := [], alts := [], laidByText := true, laidKinds := [.data], laidTests := true, laidLooks := .later }
def FixDualsCardSaid : Prop := Claim7.holds Tryz.pinned (.plain (OpenSpec.ofChange fixDualsSpec)) fixDualsCard

/-- THE TIED CARD OF 'ectypelaw09.FixSolves'. -/
def fixSolvesCard : Claim7 := { stood := { row := fixSolvesRow, standIns := [], harness := (true, "c1d4ddd4f3cb4e43dffdcf47013e0f9a8dbe1fcf753834db3f30a4dc6b8cde4b"), looks := true }, kinds := [], alts := [], laidByText := true, laidKinds := [.data], laidTests := true, laidLooks := .later }
def FixSolvesCardSaid : Prop := Claim7.holds Tryz.pinned (.plain (OpenSpec.ofChange fixSolvesSpec)) fixSolvesCard

/-- THE TIED CARD OF 'ectypelaw09.FixForms'. -/
def fixFormsCard : Claim7 := { stood := { row := fixFormsRow, standIns := [], harness := (true, "c1d4ddd4f3cb4e43dffdcf47013e0f9a8dbe1fcf753834db3f30a4dc6b8cde4b"), looks := true }, kinds := [], alts := [], laidByText := true, laidKinds := [.data], laidTests := true, laidLooks := .later }
def FixFormsCardSaid : Prop := Claim7.holds Tryz.pinned (.plain (OpenSpec.ofChange fixFormsSpec)) fixFormsCard

/-- THE TIED CARD OF 'ectypelaw09.FixRounds'. -/
def fixRoundsCard : Claim7 := { stood := { row := fixRoundsRow, standIns := [], harness := (true, "c1d4ddd4f3cb4e43dffdcf47013e0f9a8dbe1fcf753834db3f30a4dc6b8cde4b"), looks := true }, kinds := [], alts := [], laidByText := true, laidKinds := [.data, .widerDeep], laidTests := true, laidLooks := .later }
def FixRoundsCardSaid : Prop := Claim7.holds Tryz.pinned (.plain (OpenSpec.ofChange fixRoundsSpec)) fixRoundsCard

/-- THE SECOND FORM's CARD OF 'ectypelaw09.FixInvariant'. -/
def fixInvariantUptoCard : Claim7 := { stood := { row := fixInvariantUptoRow, standIns := [], harness := (true, "c1d4ddd4f3cb4e43dffdcf47013e0f9a8dbe1fcf753834db3f30a4dc6b8cde4b"), looks := true }, kinds := [], alts := [], laidByText := true, laidKinds := [.data], laidTests := true, laidLooks := .later }
def FixInvariantUptoCardSaid : Prop := Claim7.holds Tryz.pinned (.plain (OpenSpec.upto fixInvariantSpec)) fixInvariantUptoCard

/-- THE SECOND FORM's CARD OF 'ectypelaw09.FixReach'. -/
def fixReachUptoCard : Claim7 := { stood := { row := fixReachUptoRow, standIns := [], harness := (true, "c1d4ddd4f3cb4e43dffdcf47013e0f9a8dbe1fcf753834db3f30a4dc6b8cde4b"), looks := true }, kinds := [], alts := [], laidByText := true, laidKinds := [.data], laidTests := true, laidLooks := .later }
def FixReachUptoCardSaid : Prop := Claim7.holds Tryz.pinned (.plain (OpenSpec.upto fixReachSpec)) fixReachUptoCard

/-- THE SECOND FORM's CARD OF 'ectypelaw09.FixOperators'. -/
def fixOperatorsUptoCard : Claim7 := { stood := { row := fixOperatorsUptoRow, standIns := [], harness := (true, "c1d4ddd4f3cb4e43dffdcf47013e0f9a8dbe1fcf753834db3f30a4dc6b8cde4b"), looks := true }, kinds := [], alts := [], laidByText := true, laidKinds := [.data], laidTests := true, laidLooks := .later }
def FixOperatorsUptoCardSaid : Prop := Claim7.holds Tryz.pinned (.plain (OpenSpec.upto fixOperatorsSpec)) fixOperatorsUptoCard

/-- THE SECOND FORM's CARD OF 'ectypelaw09.FixDuals'. -/
def fixDualsUptoCard : Claim7 := { stood := { row := fixDualsUptoRow, standIns := [], harness := (true, "c1d4ddd4f3cb4e43dffdcf47013e0f9a8dbe1fcf753834db3f30a4dc6b8cde4b"), looks := true }, kinds := [], alts := [], laidByText := true, laidKinds := [.data], laidTests := true, laidLooks := .later }
def FixDualsUptoCardSaid : Prop := Claim7.holds Tryz.pinned (.plain (OpenSpec.upto fixDualsSpec)) fixDualsUptoCard

/-- THE SECOND FORM's CARD OF 'ectypelaw09.FixSolves'. -/
def fixSolvesUptoCard : Claim7 := { stood := { row := fixSolvesUptoRow, standIns := [], harness := (true, "c1d4ddd4f3cb4e43dffdcf47013e0f9a8dbe1fcf753834db3f30a4dc6b8cde4b"), looks := true }, kinds := [], alts := [], laidByText := true, laidKinds := [.data], laidTests := true, laidLooks := .later }
def FixSolvesUptoCardSaid : Prop := Claim7.holds Tryz.pinned (.plain (OpenSpec.upto fixSolvesSpec)) fixSolvesUptoCard

/-- THE SECOND FORM's CARD OF 'ectypelaw09.FixForms'. -/
def fixFormsUptoCard : Claim7 := { stood := { row := fixFormsUptoRow, standIns := [], harness := (true, "c1d4ddd4f3cb4e43dffdcf47013e0f9a8dbe1fcf753834db3f30a4dc6b8cde4b"), looks := true }, kinds := [], alts := [], laidByText := true, laidKinds := [.data], laidTests := true, laidLooks := .later }
def FixFormsUptoCardSaid : Prop := Claim7.holds Tryz.pinned (.plain (OpenSpec.upto fixFormsSpec)) fixFormsUptoCard

/-- THE SECOND FORM's CARD OF 'ectypelaw09.FixRounds'. -/
def fixRoundsUptoCard : Claim7 := { stood := { row := fixRoundsUptoRow, standIns := [], harness := (true, "c1d4ddd4f3cb4e43dffdcf47013e0f9a8dbe1fcf753834db3f30a4dc6b8cde4b"), looks := true }, kinds := [], alts := [], laidByText := true, laidKinds := [.data, .widerDeep], laidTests := true, laidLooks := .later }
def FixRoundsUptoCardSaid : Prop := Claim7.holds Tryz.pinned (.plain (OpenSpec.upto fixRoundsSpec)) fixRoundsUptoCard
end Rows
end Go.Proofs.YtkjbakmlonpdjaaGreatDoor
