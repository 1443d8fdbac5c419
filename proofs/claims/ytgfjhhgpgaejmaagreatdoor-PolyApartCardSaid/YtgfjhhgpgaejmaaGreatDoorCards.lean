/-
  DERIVED. GIVEN WITH THE SEED: THE CARDS: each row of YtgfjhhgpgaejmaaGreatDoorRows.lean that lists a variable, with what it lists TIED to the program's text (the seventh form; the later family's looks); each row that meets fmt, with fmt's text TOLD by the authors' own Lean function (tested against real Go, not proved from fmt's source: count such statements apart). THE CARD IS WHAT COUNTS. Prove the row's statement (the work); the ties are given (YtgfjhhgpgaejmaaGreatDoorTie.lean); close each card by the builder's one call (the guide's Derived/Test/ToyasCard.lean, 'card_holds'). Laid BY PROGRAM, IN A SANDBOX (cutbox-door.mjs). By AI agents, Wed Nov 11 2026. No macro, syntax, notation, axiom, sorry.
-/
import Derived.Test.YtgfjhhgpgaejmaaGreatDoorRows
import GoSem.ClaimSeven
namespace Go.Proofs.YtgfjhhgpgaejmaaGreatDoor
namespace Rows

/-- THE TIED CARD OF 'ectypelaw12.PolyShapes'. -/
def polyShapesCard : Claim7 := { stood := { row := polyShapesRow, standIns := [], harness := (true, "16a4129b232127bfdea412713b8fa3b46107cc82ead47a7fe3b19e40eeea7f38"), looks := false }, kinds := [], alts := [], laidByText := true, laidKinds := [.data], laidTests := true, laidLooks := .later }
def PolyShapesCardSaid : Prop := Claim7.holds Tryz.pinned (.plain (OpenSpec.ofChange polyShapesSpec)) polyShapesCard

/-- THE TIED CARD OF 'ectypelaw12.PolyApart'. -/
def polyApartCard : Claim7 := { stood := { row := polyApartRow, standIns := [], harness := (true, "16a4129b232127bfdea412713b8fa3b46107cc82ead47a7fe3b19e40eeea7f38"), looks := false }, kinds := [], alts := [], laidByText := true, laidKinds := [.data], laidTests := true, laidLooks := .later }
def PolyApartCardSaid : Prop := Claim7.holds Tryz.pinned (.plain (OpenSpec.ofChange polyApartSpec)) polyApartCard

/-- THE TIED CARD OF 'ectypelaw12.PolySplits'. -/
def polySplitsCard : Claim7 := { stood := { row := polySplitsRow, standIns := [], harness := (true, "16a4129b232127bfdea412713b8fa3b46107cc82ead47a7fe3b19e40eeea7f38"), looks := false }, kinds := [], alts := [], laidByText := true, laidKinds := [.data], laidTests := true, laidLooks := .later }
def PolySplitsCardSaid : Prop := Claim7.holds Tryz.pinned (.plain (OpenSpec.ofChange polySplitsSpec)) polySplitsCard

/-- THE TIED CARD OF 'ectypelaw12.PolyPaths'. -/
def polyPathsCard : Claim7 := { stood := { row := polyPathsRow, standIns := [], harness := (true, "16a4129b232127bfdea412713b8fa3b46107cc82ead47a7fe3b19e40eeea7f38"), looks := false }, kinds := [], alts := [], laidByText := true, laidKinds := [.data], laidTests := true, laidLooks := .later }
def PolyPathsCardSaid : Prop := Claim7.holds Tryz.pinned (.plain (OpenSpec.ofChange polyPathsSpec)) polyPathsCard

/-- THE SECOND FORM's CARD OF 'ectypelaw12.PolyShapes'. -/
def polyShapesUptoCard : Claim7 := { stood := { row := polyShapesUptoRow, standIns := [], harness := (true, "16a4129b232127bfdea412713b8fa3b46107cc82ead47a7fe3b19e40eeea7f38"), looks := false }, kinds := [], alts := [], laidByText := true, laidKinds := [.data], laidTests := true, laidLooks := .later }
def PolyShapesUptoCardSaid : Prop := Claim7.holds Tryz.pinned (.plain (OpenSpec.upto polyShapesSpec)) polyShapesUptoCard

/-- THE SECOND FORM's CARD OF 'ectypelaw12.PolyApart'. -/
def polyApartUptoCard : Claim7 := { stood := { row := polyApartUptoRow, standIns := [], harness := (true, "16a4129b232127bfdea412713b8fa3b46107cc82ead47a7fe3b19e40eeea7f38"), looks := false }, kinds := [], alts := [], laidByText := true, laidKinds := [.data], laidTests := true, laidLooks := .later }
def PolyApartUptoCardSaid : Prop := Claim7.holds Tryz.pinned (.plain (OpenSpec.upto polyApartSpec)) polyApartUptoCard

/-- THE SECOND FORM's CARD OF 'ectypelaw12.PolySplits'. -/
def polySplitsUptoCard : Claim7 := { stood := { row := polySplitsUptoRow, standIns := [], harness := (true, "16a4129b232127bfdea412713b8fa3b46107cc82ead47a7fe3b19e40eeea7f38"), looks := false }, kinds := [], alts := [], laidByText := true, laidKinds := [.data], laidTests := true, laidLooks := .later }
def PolySplitsUptoCardSaid : Prop := Claim7.holds Tryz.pinned (.plain (OpenSpec.upto polySplitsSpec)) polySplitsUptoCard

/-- THE SECOND FORM's CARD OF 'ectypelaw12.PolyPaths'. -/
def polyPathsUptoCard : Claim7 := { stood := { row := polyPathsUptoRow, standIns := [], harness := (true, "16a4129b232127bfdea412713b8fa3b46107cc82ead47a7fe3b19e40eeea7f38"), looks := false }, kinds := [], alts := [], laidByText := true, laidKinds := [.data], laidTests := true, laidLooks := .later }
def PolyPathsUptoCardSaid : Prop := Claim7.holds Tryz.pinned (.plain (OpenSpec.upto polyPathsSpec)) polyPathsUptoCard
end Rows
end Go.Proofs.YtgfjhhgpgaejmaaGreatDoor
