/-
  NARROWER THAN 'FOR EVERY INPUT', by the rows' own cells (each row's printed sentence says how): PolyShapes: loops, laid · PolyApart: loops, laid · PolySplits: loops, laid · PolyPaths: loops, laid.
  DERIVED. THE GIVEN ROWS OF THIS SEAT. 4 by the template 'for every input the law returns true; each argument reads behind the call as it read before'; 0 by the template 'total and deterministic' (their statements: YtgfjhhgpgaejmaaGreatDoorTotals.lean).
  GIVEN WITH THE SEED: the statements are not yours to turn. If you find one false, say at which input.
  Laid BY PROGRAM, IN A SANDBOX (cutbox-rows.mjs): the forced cells as the released guide's own fill.sh prints them over the translation c0bb6e987ce0d970… (all of the seat's roots in one cut). By AI agents, Wed Nov 11 2026. No macro, syntax, notation, axiom, sorry.
-/
import Derived.Test.YtgfjhhgpgaejmaaGreatDoorChecked
import GoSem.Claim
import GoSem.ClaimJoined
import GoSem.ClaimMapViews
import Derived.JoinedTies
import Derived.KernelRfl
namespace Go.Proofs.YtgfjhhgpgaejmaaGreatDoor
/- THE CELL 'sum', in the pinned program and in every row, IS THE sha256 OF THE DUMP (.gsa) THAT YtgfjhhgpgaejmaaGreatDoorProg.lean LOADS. Nothing in Lean hashes anything: it is a label: what it is worth is what the hold of that sum in a sandbox is worth. -/
noncomputable def Tryz.pinned : Pinned := { name := "ytgfjhhgpgaejmaagreatdoor", sum := "c0bb6e987ce0d970a43fb7c88ed63b77940c03737bdfecc18e01f7bf80c652e0", checked := Tryz.checked }
namespace Rows
def none {H : Type} : Left H := { results := [], args := [] }

/- WHAT THE LISTED PACKAGE-LEVEL VARIABLES READ AS WHEN THE CALL BEGINS. Each datum BY PROGRAM (the guide's laid-datum.mjs) off the statement by which the dump's own 'gosem.cut.vars' lays the variable. In a bare row this is a premise. The card (YtgfjhhgpgaejmaaGreatDoorCards.lean) ties it to the program's text. -/
def laid_ectype_functor_forms {H : Type} : DataW H := .agg [.agg [.lit (.int .i64 0), .lit (.int .i64 0)], .agg [.lit (.int .i64 16), .lit (.int .i64 0)], .agg [.lit (.int .i64 0), .lit (.int .i64 2)], .agg [.lit (.int .i64 0), .lit (.int .i64 2)], .agg [.lit (.int .i64 4), .lit (.int .i64 1)], .agg [.lit (.int .i64 0), .lit (.int .i64 1)], .agg [.lit (.int .i64 0), .lit (.int .i64 1)], .agg [.lit (.int .i64 0), .lit (.int .i64 1)]]

/-- 'ectypelaw12.PolyShapes': WHATEVER THE INPUT: true; the input reads as it did. -/
def polyShapesSpec : ChangeSpec := { name := "polyShapes", fn := fun _ => fun
  | [d1, d2, d3] => { results := [.lit (.bool true)], args := [d1, d2, d3] }
  | _ => none }
def polyShapesRow : OpenClaim := { program := "ytgfjhhgpgaejmaagreatdoor", sum := "c0bb6e987ce0d970a43fb7c88ed63b77940c03737bdfecc18e01f7bf80c652e0", func := "ectype/ectypelaw12.PolyShapes", spec := "polyShapes", unfollowed := true, recurses := true, named := ["ectype/functor.forms"], loops := true, plainKeys := false, apart := false, laid := [("ectype/functor.forms", laid_ectype_functor_forms)] }
def PolyShapesSaid : Prop := polyShapesRow.holds Tryz.pinned (OpenSpec.ofChange polyShapesSpec)

/-- ITS FALSE NEIGHBOUR: 'it returns false'. Refute it at one input. -/
def polyShapesWrong : ChangeSpec := { name := "polyShapes", fn := fun _ => fun
  | [d1, d2, d3] => { results := [.lit (.bool false)], args := [d1, d2, d3] }
  | _ => none }
def PolyShapesWrongFalsely : Prop := polyShapesRow.holds Tryz.pinned (OpenSpec.ofChange polyShapesWrong)

/-- 'ectypelaw12.PolyApart': WHATEVER THE INPUT: true; the input reads as it did. -/
def polyApartSpec : ChangeSpec := { name := "polyApart", fn := fun _ => fun
  | [d1, d2, d3, d4] => { results := [.lit (.bool true)], args := [d1, d2, d3, d4] }
  | _ => none }
def polyApartRow : OpenClaim := { program := "ytgfjhhgpgaejmaagreatdoor", sum := "c0bb6e987ce0d970a43fb7c88ed63b77940c03737bdfecc18e01f7bf80c652e0", func := "ectype/ectypelaw12.PolyApart", spec := "polyApart", unfollowed := true, recurses := true, named := ["ectype/functor.forms"], loops := true, plainKeys := false, apart := false, laid := [("ectype/functor.forms", laid_ectype_functor_forms)] }
def PolyApartSaid : Prop := polyApartRow.holds Tryz.pinned (OpenSpec.ofChange polyApartSpec)

/-- ITS FALSE NEIGHBOUR: 'it returns false'. Refute it at one input. -/
def polyApartWrong : ChangeSpec := { name := "polyApart", fn := fun _ => fun
  | [d1, d2, d3, d4] => { results := [.lit (.bool false)], args := [d1, d2, d3, d4] }
  | _ => none }
def PolyApartWrongFalsely : Prop := polyApartRow.holds Tryz.pinned (OpenSpec.ofChange polyApartWrong)

/-- 'ectypelaw12.PolySplits': WHATEVER THE INPUT: true; the input reads as it did. -/
def polySplitsSpec : ChangeSpec := { name := "polySplits", fn := fun _ => fun
  | [d1, d2, d3, d4, d5] => { results := [.lit (.bool true)], args := [d1, d2, d3, d4, d5] }
  | _ => none }
def polySplitsRow : OpenClaim := { program := "ytgfjhhgpgaejmaagreatdoor", sum := "c0bb6e987ce0d970a43fb7c88ed63b77940c03737bdfecc18e01f7bf80c652e0", func := "ectype/ectypelaw12.PolySplits", spec := "polySplits", unfollowed := true, recurses := true, named := ["ectype/functor.forms"], loops := true, plainKeys := false, apart := false, laid := [("ectype/functor.forms", laid_ectype_functor_forms)] }
def PolySplitsSaid : Prop := polySplitsRow.holds Tryz.pinned (OpenSpec.ofChange polySplitsSpec)

/-- ITS FALSE NEIGHBOUR: 'it returns false'. Refute it at one input. -/
def polySplitsWrong : ChangeSpec := { name := "polySplits", fn := fun _ => fun
  | [d1, d2, d3, d4, d5] => { results := [.lit (.bool false)], args := [d1, d2, d3, d4, d5] }
  | _ => none }
def PolySplitsWrongFalsely : Prop := polySplitsRow.holds Tryz.pinned (OpenSpec.ofChange polySplitsWrong)

/-- 'ectypelaw12.PolyPaths': WHATEVER THE INPUT: true; the input reads as it did. -/
def polyPathsSpec : ChangeSpec := { name := "polyPaths", fn := fun _ => fun
  | [d1, d2, d3] => { results := [.lit (.bool true)], args := [d1, d2, d3] }
  | _ => none }
def polyPathsRow : OpenClaim := { program := "ytgfjhhgpgaejmaagreatdoor", sum := "c0bb6e987ce0d970a43fb7c88ed63b77940c03737bdfecc18e01f7bf80c652e0", func := "ectype/ectypelaw12.PolyPaths", spec := "polyPaths", unfollowed := true, recurses := true, named := ["ectype/functor.forms"], loops := true, plainKeys := false, apart := false, laid := [("ectype/functor.forms", laid_ectype_functor_forms)] }
def PolyPathsSaid : Prop := polyPathsRow.holds Tryz.pinned (OpenSpec.ofChange polyPathsSpec)

/-- ITS FALSE NEIGHBOUR: 'it returns false'. Refute it at one input. -/
def polyPathsWrong : ChangeSpec := { name := "polyPaths", fn := fun _ => fun
  | [d1, d2, d3] => { results := [.lit (.bool false)], args := [d1, d2, d3] }
  | _ => none }
def PolyPathsWrongFalsely : Prop := polyPathsRow.holds Tryz.pinned (OpenSpec.ofChange polyPathsWrong)

/- THE SECOND FORM. 'bulk': how many values and letters a reading holds, each counted each time it is reached (what is shared counts as often as it is met; a slice's spare places count too). A statement '..UptoSaid' is the law's where the arguments, and the package variables that the reading takes, are together of bulk at most 1048576: NARROWER than '..Said'. Prove '..Said' where nothing that the law and all that it calls make is longer than what came in: it says more and counts as full. Else prove '..UptoSaid'. A law counts once. -/
mutual
def uptoBulk {H : Type} : DataW H → Nat
  | .lit (.string bytes) => bytes.length + 1
  | .lit _ => 1
  | .nil => 1
  | .ptr d => uptoBulk d + 1
  | .slice elems spare => uptoBulkAll elems + uptoBulkAll spare + 1
  | .agg parts => uptoBulkAll parts + 1
  | .iface _ d => uptoBulk d + 1
  | .map entries => uptoBulkEntries entries + 1
  | .held _ => 1
def uptoBulkAll {H : Type} : List (DataW H) → Nat
  | [] => 0
  | d :: r => uptoBulk d + uptoBulkAll r
def uptoBulkEntries {H : Type} : List (Lit × DataW H) → Nat
  | [] => 0
  | x :: r => uptoBulkEntry x + uptoBulkEntries r
def uptoBulkEntry {H : Type} : Lit × DataW H → Nat
  | (.string bytes, d) => bytes.length + uptoBulk d + 1
  | (_, d) => uptoBulk d + 1
 end
def uptoSmall : (H : Type) → List (DataW H) → Bool := fun _ ds => decide (uptoBulkAll ds ≤ 1048576)
def OpenSpec.upto (s : _root_.Go.ChangeSpec) : _root_.Go.OpenSpec := { _root_.Go.OpenSpec.ofChange s with cond := some uptoSmall }

/-- 'ectypelaw12.PolyShapes', WHERE WHAT IT READS IS OF BULK AT MOST 1048576: true; the input reads as it did. -/
def polyShapesUptoRow : OpenClaim := { program := "ytgfjhhgpgaejmaagreatdoor", sum := "c0bb6e987ce0d970a43fb7c88ed63b77940c03737bdfecc18e01f7bf80c652e0", func := "ectype/ectypelaw12.PolyShapes", spec := "polyShapes", unfollowed := true, recurses := true, named := ["ectype/functor.forms"], loops := true, plainKeys := false, apart := false, laid := [("ectype/functor.forms", laid_ectype_functor_forms)], narrowed := true }
def PolyShapesUptoSaid : Prop := polyShapesUptoRow.holds Tryz.pinned (OpenSpec.upto polyShapesSpec)

/-- 'ectypelaw12.PolyApart', WHERE WHAT IT READS IS OF BULK AT MOST 1048576: true; the input reads as it did. -/
def polyApartUptoRow : OpenClaim := { program := "ytgfjhhgpgaejmaagreatdoor", sum := "c0bb6e987ce0d970a43fb7c88ed63b77940c03737bdfecc18e01f7bf80c652e0", func := "ectype/ectypelaw12.PolyApart", spec := "polyApart", unfollowed := true, recurses := true, named := ["ectype/functor.forms"], loops := true, plainKeys := false, apart := false, laid := [("ectype/functor.forms", laid_ectype_functor_forms)], narrowed := true }
def PolyApartUptoSaid : Prop := polyApartUptoRow.holds Tryz.pinned (OpenSpec.upto polyApartSpec)

/-- 'ectypelaw12.PolySplits', WHERE WHAT IT READS IS OF BULK AT MOST 1048576: true; the input reads as it did. -/
def polySplitsUptoRow : OpenClaim := { program := "ytgfjhhgpgaejmaagreatdoor", sum := "c0bb6e987ce0d970a43fb7c88ed63b77940c03737bdfecc18e01f7bf80c652e0", func := "ectype/ectypelaw12.PolySplits", spec := "polySplits", unfollowed := true, recurses := true, named := ["ectype/functor.forms"], loops := true, plainKeys := false, apart := false, laid := [("ectype/functor.forms", laid_ectype_functor_forms)], narrowed := true }
def PolySplitsUptoSaid : Prop := polySplitsUptoRow.holds Tryz.pinned (OpenSpec.upto polySplitsSpec)

/-- 'ectypelaw12.PolyPaths', WHERE WHAT IT READS IS OF BULK AT MOST 1048576: true; the input reads as it did. -/
def polyPathsUptoRow : OpenClaim := { program := "ytgfjhhgpgaejmaagreatdoor", sum := "c0bb6e987ce0d970a43fb7c88ed63b77940c03737bdfecc18e01f7bf80c652e0", func := "ectype/ectypelaw12.PolyPaths", spec := "polyPaths", unfollowed := true, recurses := true, named := ["ectype/functor.forms"], loops := true, plainKeys := false, apart := false, laid := [("ectype/functor.forms", laid_ectype_functor_forms)], narrowed := true }
def PolyPathsUptoSaid : Prop := polyPathsUptoRow.holds Tryz.pinned (OpenSpec.upto polyPathsSpec)

end Rows
end Go.Proofs.YtgfjhhgpgaejmaaGreatDoor
