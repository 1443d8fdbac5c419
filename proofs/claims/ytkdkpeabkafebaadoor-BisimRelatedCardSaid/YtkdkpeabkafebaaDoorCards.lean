/-
  DERIVED. GIVEN WITH THE SEED: THE CARDS: each row of YtkdkpeabkafebaaDoorRows.lean that lists a variable, with what it lists TIED to the program's text (the seventh form; the later family's looks); each row that meets fmt, with fmt's text TOLD by the authors' own Lean function (tested against real Go, not proved from fmt's source: count such statements apart). THE CARD IS WHAT COUNTS. Prove the row's statement (the work); the ties are given (YtkdkpeabkafebaaDoorTie.lean); close each card by the builder's one call (the guide's Derived/Test/ToyasCard.lean, 'card_holds'). Laid BY PROGRAM, IN A SANDBOX (cutbox-door.mjs). By AI agents, Wed Nov 11 2026. No macro, syntax, notation, axiom, sorry.
-/
import Derived.Test.YtkdkpeabkafebaaDoorRows
import GoSem.ClaimSeven
namespace Go.Proofs.YtkdkpeabkafebaaDoor
namespace Rows

/-- THE TIED CARD OF 'ectypelaw06.BisimRelated'. -/
def bisimRelatedCard : Claim7 := { stood := { row := bisimRelatedRow, standIns := [], harness := (true, "d1c919432fbd3883085654766cd62111a6679f7fc4247e6e0fa16e618b634b39"), looks := false }, kinds := [], alts := [], laidByText := true, laidKinds := [.data], laidTests := true, laidLooks := .later }
def BisimRelatedCardSaid : Prop := Claim7.holds Tryd.pinned (.plain (OpenSpec.ofChange bisimRelatedSpec)) bisimRelatedCard

/-- THE TIED CARD OF 'ectypelaw06.BisimOperations'. -/
def bisimOperationsCard : Claim7 := { stood := { row := bisimOperationsRow, standIns := [], harness := (true, "d1c919432fbd3883085654766cd62111a6679f7fc4247e6e0fa16e618b634b39"), looks := false }, kinds := [], alts := [], laidByText := true, laidKinds := [.data], laidTests := true, laidLooks := .later }
def BisimOperationsCardSaid : Prop := Claim7.holds Tryd.pinned (.plain (OpenSpec.ofChange bisimOperationsSpec)) bisimOperationsCard

/-- THE TIED CARD OF 'ectypelaw06.BisimOwn'. -/
def bisimOwnCard : Claim7 := { stood := { row := bisimOwnRow, standIns := [], harness := (true, "d1c919432fbd3883085654766cd62111a6679f7fc4247e6e0fa16e618b634b39"), looks := false }, kinds := [], alts := [], laidByText := true, laidKinds := [.data], laidTests := true, laidLooks := .later }
def BisimOwnCardSaid : Prop := Claim7.holds Tryd.pinned (.plain (OpenSpec.ofChange bisimOwnSpec)) bisimOwnCard

/-- THE SECOND FORM's CARD OF 'ectypelaw06.BisimRelated'. -/
def bisimRelatedUptoCard : Claim7 := { stood := { row := bisimRelatedUptoRow, standIns := [], harness := (true, "d1c919432fbd3883085654766cd62111a6679f7fc4247e6e0fa16e618b634b39"), looks := false }, kinds := [], alts := [], laidByText := true, laidKinds := [.data], laidTests := true, laidLooks := .later }
def BisimRelatedUptoCardSaid : Prop := Claim7.holds Tryd.pinned (.plain (OpenSpec.upto bisimRelatedSpec)) bisimRelatedUptoCard

/-- THE SECOND FORM's CARD OF 'ectypelaw06.BisimOperations'. -/
def bisimOperationsUptoCard : Claim7 := { stood := { row := bisimOperationsUptoRow, standIns := [], harness := (true, "d1c919432fbd3883085654766cd62111a6679f7fc4247e6e0fa16e618b634b39"), looks := false }, kinds := [], alts := [], laidByText := true, laidKinds := [.data], laidTests := true, laidLooks := .later }
def BisimOperationsUptoCardSaid : Prop := Claim7.holds Tryd.pinned (.plain (OpenSpec.upto bisimOperationsSpec)) bisimOperationsUptoCard

/-- THE SECOND FORM's CARD OF 'ectypelaw06.BisimOwn'. -/
def bisimOwnUptoCard : Claim7 := { stood := { row := bisimOwnUptoRow, standIns := [], harness := (true, "d1c919432fbd3883085654766cd62111a6679f7fc4247e6e0fa16e618b634b39"), looks := false }, kinds := [], alts := [], laidByText := true, laidKinds := [.data], laidTests := true, laidLooks := .later }
def BisimOwnUptoCardSaid : Prop := Claim7.holds Tryd.pinned (.plain (OpenSpec.upto bisimOwnSpec)) bisimOwnUptoCard
end Rows
end Go.Proofs.YtkdkpeabkafebaaDoor
