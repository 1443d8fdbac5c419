/-
  NARROWER THAN 'FOR EVERY INPUT', by the rows' own cells (each row's printed sentence says how): FixInvariant: loops, laid · FixReach: loops, laid · FixOperators: loops, laid · FixDuals: loops, laid · FixSolves: loops, laid · FixForms: loops, laid · FixRounds: loops, laid.
  DERIVED. THE GIVEN ROWS OF THIS SEAT. 7 by the template 'for every input the law returns true; each argument reads behind the call as it read before'; 0 by the template 'total and deterministic' (their statements: YtkjbakmlonpdjaaGreatDoorTotals.lean).
  GIVEN WITH THE SEED: the statements are not yours to turn. If you find one false, say at which input.
  Laid BY PROGRAM, IN A SANDBOX (cutbox-rows.mjs): the forced cells as the released guide's own fill.sh prints them over the translation fac73bf69890a640… (all of the seat's roots in one cut). By AI agents, Wed Nov 11 2026. No macro, syntax, notation, axiom, sorry.
-/
import Derived.Test.YtkjbakmlonpdjaaGreatDoorChecked
import GoSem.Claim
import GoSem.ClaimJoined
import GoSem.ClaimMapViews
import Derived.JoinedTies
import Derived.KernelRfl
namespace Go.Proofs.YtkjbakmlonpdjaaGreatDoor
/- THE CELL 'sum', in the pinned program and in every row, IS THE sha256 OF THE DUMP (.gsa) THAT YtkjbakmlonpdjaaGreatDoorProg.lean LOADS. Nothing in Lean hashes anything: it is a label: what it is worth is what the hold of that sum in a sandbox is worth. -/
noncomputable def Tryz.pinned : Pinned := { name := "ytkjbakmlonpdjaagreatdoor", sum := "fac73bf69890a640fe109e558849e0a8bac5be59051a167a25246cdd2e607f04", checked := Tryz.checked }
namespace Rows
def none {H : Type} : Left H := { results := [], args := [] }

/- WHAT THE LISTED PACKAGE-LEVEL VARIABLES READ AS WHEN THE CALL BEGINS. Each datum BY PROGRAM (the guide's laid-datum.mjs) off the statement by which the dump's own 'gosem.cut.vars' lays the variable. In a bare row this is a premise. The card (YtkjbakmlonpdjaaGreatDoorCards.lean) ties it to the program's text. -/
def laid_ectype_functor_forms {H : Type} : DataW H := .agg [.agg [.lit (.int .i64 0), .lit (.int .i64 0)], .agg [.lit (.int .i64 16), .lit (.int .i64 0)], .agg [.lit (.int .i64 0), .lit (.int .i64 2)], .agg [.lit (.int .i64 0), .lit (.int .i64 2)], .agg [.lit (.int .i64 4), .lit (.int .i64 1)], .agg [.lit (.int .i64 0), .lit (.int .i64 1)], .agg [.lit (.int .i64 0), .lit (.int .i64 1)], .agg [.lit (.int .i64 0), .lit (.int .i64 1)]]
def laid_ectype_logic_rules {H : Type} : DataW H := .agg [.agg [.lit (.string [116, 111, 112]), .lit (.int .i64 (-1)), .lit (.int .i64 0)], .agg [.lit (.string [110, 111, 116]), .lit (.int .i64 (-1)), .lit (.int .i64 1)], .agg [.lit (.string [97, 110, 100]), .lit (.int .i64 (-1)), .lit (.int .i64 2)], .agg [.lit (.string [115, 116, 101, 112]), .lit (.int .i64 (-1)), .lit (.int .i64 1)], .agg [.lit (.string [97, 116]), .lit (.int .i64 0), .lit (.int .i64 1)], .agg [.lit (.string [105, 115]), .lit (.int .i64 1), .lit (.int .i64 0)], .agg [.lit (.string [102, 105, 114, 115, 116]), .lit (.int .i64 2), .lit (.int .i64 1)], .agg [.lit (.string [115, 101, 99, 111, 110, 100]), .lit (.int .i64 2), .lit (.int .i64 1)], .agg [.lit (.string [108, 101, 102, 116]), .lit (.int .i64 3), .lit (.int .i64 1)], .agg [.lit (.string [114, 105, 103, 104, 116]), .lit (.int .i64 3), .lit (.int .i64 1)], .agg [.lit (.string [105, 110, 112, 117, 116]), .lit (.int .i64 4), .lit (.int .i64 1)], .agg [.lit (.string [115, 111, 109, 101]), .lit (.int .i64 5), .lit (.int .i64 1)], .agg [.lit (.string [109, 97, 110, 121]), .lit (.int .i64 6), .lit (.int .i64 1)], .agg [.lit (.string [115, 104, 97, 114, 101]), .lit (.int .i64 7), .lit (.int .i64 1)]]

/-- 'ectypelaw09.FixInvariant': WHATEVER THE INPUT: true; the input reads as it did. -/
def fixInvariantSpec : ChangeSpec := { name := "fixInvariant", fn := fun _ => fun
  | [d1, d2] => { results := [.lit (.bool true)], args := [d1, d2] }
  | _ => none }
def fixInvariantRow : OpenClaim := { program := "ytkjbakmlonpdjaagreatdoor", sum := "fac73bf69890a640fe109e558849e0a8bac5be59051a167a25246cdd2e607f04", func := "ectype/ectypelaw09.FixInvariant", spec := "fixInvariant", unfollowed := true, recurses := true, named := ["ectype/functor.forms"], loops := true, apart := false, laid := [("ectype/functor.forms", laid_ectype_functor_forms)] }
def FixInvariantSaid : Prop := fixInvariantRow.holds Tryz.pinned (OpenSpec.ofChange fixInvariantSpec)

/-- ITS FALSE NEIGHBOUR: 'it returns false'. Refute it at one input. -/
def fixInvariantWrong : ChangeSpec := { name := "fixInvariant", fn := fun _ => fun
  | [d1, d2] => { results := [.lit (.bool false)], args := [d1, d2] }
  | _ => none }
def FixInvariantWrongFalsely : Prop := fixInvariantRow.holds Tryz.pinned (OpenSpec.ofChange fixInvariantWrong)

/-- 'ectypelaw09.FixReach': WHATEVER THE INPUT: true; the input reads as it did. -/
def fixReachSpec : ChangeSpec := { name := "fixReach", fn := fun _ => fun
  | [d1, d2] => { results := [.lit (.bool true)], args := [d1, d2] }
  | _ => none }
def fixReachRow : OpenClaim := { program := "ytkjbakmlonpdjaagreatdoor", sum := "fac73bf69890a640fe109e558849e0a8bac5be59051a167a25246cdd2e607f04", func := "ectype/ectypelaw09.FixReach", spec := "fixReach", unfollowed := true, recurses := true, named := ["ectype/functor.forms"], loops := true, apart := false, laid := [("ectype/functor.forms", laid_ectype_functor_forms)] }
def FixReachSaid : Prop := fixReachRow.holds Tryz.pinned (OpenSpec.ofChange fixReachSpec)

/-- ITS FALSE NEIGHBOUR: 'it returns false'. Refute it at one input. -/
def fixReachWrong : ChangeSpec := { name := "fixReach", fn := fun _ => fun
  | [d1, d2] => { results := [.lit (.bool false)], args := [d1, d2] }
  | _ => none }
def FixReachWrongFalsely : Prop := fixReachRow.holds Tryz.pinned (OpenSpec.ofChange fixReachWrong)

/-- 'ectypelaw09.FixOperators': WHATEVER THE INPUT: true; the input reads as it did. -/
def fixOperatorsSpec : ChangeSpec := { name := "fixOperators", fn := fun _ => fun
  | [d1, d2] => { results := [.lit (.bool true)], args := [d1, d2] }
  | _ => none }
def fixOperatorsRow : OpenClaim := { program := "ytkjbakmlonpdjaagreatdoor", sum := "fac73bf69890a640fe109e558849e0a8bac5be59051a167a25246cdd2e607f04", func := "ectype/ectypelaw09.FixOperators", spec := "fixOperators", unfollowed := true, recurses := true, named := ["ectype/functor.forms"], loops := true, apart := false, laid := [("ectype/functor.forms", laid_ectype_functor_forms)] }
def FixOperatorsSaid : Prop := fixOperatorsRow.holds Tryz.pinned (OpenSpec.ofChange fixOperatorsSpec)

/-- ITS FALSE NEIGHBOUR: 'it returns false'. Refute it at one input. -/
def fixOperatorsWrong : ChangeSpec := { name := "fixOperators", fn := fun _ => fun
  | [d1, d2] => { results := [.lit (.bool false)], args := [d1, d2] }
  | _ => none }
def FixOperatorsWrongFalsely : Prop := fixOperatorsRow.holds Tryz.pinned (OpenSpec.ofChange fixOperatorsWrong)

/-- 'ectypelaw09.FixDuals': WHATEVER THE INPUT: true; the input reads as it did. -/
def fixDualsSpec : ChangeSpec := { name := "fixDuals", fn := fun _ => fun
  | [d1, d2] => { results := [.lit (.bool true)], args := [d1, d2] }
  | _ => none }
def fixDualsRow : OpenClaim := { program := "ytkjbakmlonpdjaagreatdoor", sum := "fac73bf69890a640fe109e558849e0a8bac5be59051a167a25246cdd2e607f04", func := "ectype/ectypelaw09.FixDuals", spec := "fixDuals", unfollowed := true, recurses := true, named := ["ectype/functor.forms"], loops := true, apart := false, laid := [("ectype/functor.forms", laid_ectype_functor_forms)] }
def FixDualsSaid : Prop := fixDualsRow.holds Tryz.pinned (OpenSpec.ofChange fixDualsSpec)

/-- ITS FALSE NEIGHBOUR: 'it returns false'. Refute it at one input. -/
def fixDualsWrong : ChangeSpec := { name := "fixDuals", fn := fun _ => fun
  | [d1, d2] => { results := [.lit (.bool false)], args := [d1, d2] }
  | _ => none }
def FixDualsWrongFalsely : Prop := fixDualsRow.holds Tryz.pinned (OpenSpec.ofChange fixDualsWrong)

/-- 'ectypelaw09.FixSolves': WHATEVER THE INPUT: true; the input reads as it did. -/
def fixSolvesSpec : ChangeSpec := { name := "fixSolves", fn := fun _ => fun
  | [d1, d2, d3] => { results := [.lit (.bool true)], args := [d1, d2, d3] }
  | _ => none }
def fixSolvesRow : OpenClaim := { program := "ytkjbakmlonpdjaagreatdoor", sum := "fac73bf69890a640fe109e558849e0a8bac5be59051a167a25246cdd2e607f04", func := "ectype/ectypelaw09.FixSolves", spec := "fixSolves", unfollowed := true, recurses := true, named := ["ectype/functor.forms"], loops := true, apart := false, laid := [("ectype/functor.forms", laid_ectype_functor_forms)] }
def FixSolvesSaid : Prop := fixSolvesRow.holds Tryz.pinned (OpenSpec.ofChange fixSolvesSpec)

/-- ITS FALSE NEIGHBOUR: 'it returns false'. Refute it at one input. -/
def fixSolvesWrong : ChangeSpec := { name := "fixSolves", fn := fun _ => fun
  | [d1, d2, d3] => { results := [.lit (.bool false)], args := [d1, d2, d3] }
  | _ => none }
def FixSolvesWrongFalsely : Prop := fixSolvesRow.holds Tryz.pinned (OpenSpec.ofChange fixSolvesWrong)

/-- 'ectypelaw09.FixForms': WHATEVER THE INPUT: true; the input reads as it did. -/
def fixFormsSpec : ChangeSpec := { name := "fixForms", fn := fun _ => fun
  | [d1, d2, d3] => { results := [.lit (.bool true)], args := [d1, d2, d3] }
  | _ => none }
def fixFormsRow : OpenClaim := { program := "ytkjbakmlonpdjaagreatdoor", sum := "fac73bf69890a640fe109e558849e0a8bac5be59051a167a25246cdd2e607f04", func := "ectype/ectypelaw09.FixForms", spec := "fixForms", unfollowed := true, recurses := true, named := ["ectype/functor.forms"], loops := true, apart := false, laid := [("ectype/functor.forms", laid_ectype_functor_forms)] }
def FixFormsSaid : Prop := fixFormsRow.holds Tryz.pinned (OpenSpec.ofChange fixFormsSpec)

/-- ITS FALSE NEIGHBOUR: 'it returns false'. Refute it at one input. -/
def fixFormsWrong : ChangeSpec := { name := "fixForms", fn := fun _ => fun
  | [d1, d2, d3] => { results := [.lit (.bool false)], args := [d1, d2, d3] }
  | _ => none }
def FixFormsWrongFalsely : Prop := fixFormsRow.holds Tryz.pinned (OpenSpec.ofChange fixFormsWrong)

/-- 'ectypelaw09.FixRounds': WHATEVER THE INPUT: true; the input reads as it did. -/
def fixRoundsSpec : ChangeSpec := { name := "fixRounds", fn := fun _ => fun
  | [d1, d2] => { results := [.lit (.bool true)], args := [d1, d2] }
  | _ => none }
def fixRoundsRow : OpenClaim := { program := "ytkjbakmlonpdjaagreatdoor", sum := "fac73bf69890a640fe109e558849e0a8bac5be59051a167a25246cdd2e607f04", func := "ectype/ectypelaw09.FixRounds", spec := "fixRounds", unfollowed := true, recurses := true, named := ["ectype/functor.forms", "ectype/logic.rules"], loops := true, apart := false, laid := [("ectype/functor.forms", laid_ectype_functor_forms), ("ectype/logic.rules", laid_ectype_logic_rules)] }
def FixRoundsSaid : Prop := fixRoundsRow.holds Tryz.pinned (OpenSpec.ofChange fixRoundsSpec)

/-- ITS FALSE NEIGHBOUR: 'it returns false'. Refute it at one input. -/
def fixRoundsWrong : ChangeSpec := { name := "fixRounds", fn := fun _ => fun
  | [d1, d2] => { results := [.lit (.bool false)], args := [d1, d2] }
  | _ => none }
def FixRoundsWrongFalsely : Prop := fixRoundsRow.holds Tryz.pinned (OpenSpec.ofChange fixRoundsWrong)

/- THE SECOND FORM. 'bulk': how many values and letters a reading holds, each counted each time it is reached (what is shared counts as often as it is met; a slice's spare places count too). A statement '..UptoSaid' is the law's where the arguments, and the package variables that the reading takes, are together of bulk at most 1048576: NARROWER than '..Said'. Prove '..Said' where nothing that the law and all that it calls make is longer than what came in: it says more and counts as full. Else prove '..UptoSaid'. A law counts once. -/
mutual
def uptoBulk {H : Type} : DataW H → Nat
  | .lit (.string bytes) => bytes.length + 1
  | .lit _ => 1
  | .nil => 1
  | .ptr d => uptoBulk d + 1
  | .slice elems spare => uptoBulkAll elems + uptoBulkAll spare + 1
  | .agg parts => uptoBulkAll parts + 1
  | .iface _ d => uptoBulk d + 1
  | .map entries => uptoBulkEntries entries + 1
  | .held _ => 1
def uptoBulkAll {H : Type} : List (DataW H) → Nat
  | [] => 0
  | d :: r => uptoBulk d + uptoBulkAll r
def uptoBulkEntries {H : Type} : List (Lit × DataW H) → Nat
  | [] => 0
  | x :: r => uptoBulkEntry x + uptoBulkEntries r
def uptoBulkEntry {H : Type} : Lit × DataW H → Nat
  | (.string bytes, d) => bytes.length + uptoBulk d + 1
  | (_, d) => uptoBulk d + 1
 end
def uptoSmall : (H : Type) → List (DataW H) → Bool := fun _ ds => decide (uptoBulkAll ds ≤ 1048576)
def OpenSpec.upto (s : _root_.Go.ChangeSpec) : _root_.Go.OpenSpec := { _root_.Go.OpenSpec.ofChange s with cond := some uptoSmall }

/-- 'ectypelaw09.FixInvariant', WHERE WHAT IT READS IS OF BULK AT MOST 1048576: true; the input reads as it did. -/
def fixInvariantUptoRow : OpenClaim := { program := "ytkjbakmlonpdjaagreatdoor", sum := "fac73bf69890a640fe109e558849e0a8bac5be59051a167a25246cdd2e607f04", func := "ectype/ectypelaw09.FixInvariant", spec := "fixInvariant", unfollowed := true, recurses := true, named := ["ectype/functor.forms"], loops := true, apart := false, laid := [("ectype/functor.forms", laid_ectype_functor_forms)], narrowed := true }
def FixInvariantUptoSaid : Prop := fixInvariantUptoRow.holds Tryz.pinned (OpenSpec.upto fixInvariantSpec)

/-- 'ectypelaw09.FixReach', WHERE WHAT IT READS IS OF BULK AT MOST 1048576: true; the input reads as it did. -/
def fixReachUptoRow : OpenClaim := { program := "ytkjbakmlonpdjaagreatdoor", sum := "fac73bf69890a640fe109e558849e0a8bac5be59051a167a25246cdd2e607f04", func := "ectype/ectypelaw09.FixReach", spec := "fixReach", unfollowed := true, recurses := true, named := ["ectype/functor.forms"], loops := true, apart := false, laid := [("ectype/functor.forms", laid_ectype_functor_forms)], narrowed := true }
def FixReachUptoSaid : Prop := fixReachUptoRow.holds Tryz.pinned (OpenSpec.upto fixReachSpec)

/-- 'ectypelaw09.FixOperators', WHERE WHAT IT READS IS OF BULK AT MOST 1048576: true; the input reads as it did. -/
def fixOperatorsUptoRow : OpenClaim := { program := "ytkjbakmlonpdjaagreatdoor", sum := "fac73bf69890a640fe109e558849e0a8bac5be59051a167a25246cdd2e607f04", func := "ectype/ectypelaw09.FixOperators", spec := "fixOperators", unfollowed := true, recurses := true, named := ["ectype/functor.forms"], loops := true, apart := false, laid := [("ectype/functor.forms", laid_ectype_functor_forms)], narrowed := true }
def FixOperatorsUptoSaid : Prop := fixOperatorsUptoRow.holds Tryz.pinned (OpenSpec.upto fixOperatorsSpec)

/-- 'ectypelaw09.FixDuals', WHERE WHAT IT READS IS OF BULK AT MOST 1048576: true; the input reads as it did. -/
def fixDualsUptoRow : OpenClaim := { program := "ytkjbakmlonpdjaagreatdoor", sum := "fac73bf69890a640fe109e558849e0a8bac5be59051a167a25246cdd2e607f04", func := "ectype/ectypelaw09.FixDuals", spec := "fixDuals", unfollowed := true, recurses := true, named := ["ectype/functor.forms"], loops := true, apart := false, laid := [("ectype/functor.forms", laid_ectype_functor_forms)], narrowed := true }
def FixDualsUptoSaid : Prop := fixDualsUptoRow.holds Tryz.pinned (OpenSpec.upto fixDualsSpec)

/-- 'ectypelaw09.FixSolves', WHERE WHAT IT READS IS OF BULK AT MOST 1048576: true; the input reads as it did. -/
def fixSolvesUptoRow : OpenClaim := { program := "ytkjbakmlonpdjaagreatdoor", sum := "fac73bf69890a640fe109e558849e0a8bac5be59051a167a25246cdd2e607f04", func := "ectype/ectypelaw09.FixSolves", spec := "fixSolves", unfollowed := true, recurses := true, named := ["ectype/functor.forms"], loops := true, apart := false, laid := [("ectype/functor.forms", laid_ectype_functor_forms)], narrowed := true }
def FixSolvesUptoSaid : Prop := fixSolvesUptoRow.holds Tryz.pinned (OpenSpec.upto fixSolvesSpec)

/-- 'ectypelaw09.FixForms', WHERE WHAT IT READS IS OF BULK AT MOST 1048576: true; the input reads as it did. -/
def fixFormsUptoRow : OpenClaim := { program := "ytkjbakmlonpdjaagreatdoor", sum := "fac73bf69890a640fe109e558849e0a8bac5be59051a167a25246cdd2e607f04", func := "ectype/ectypelaw09.FixForms", spec := "fixForms", unfollowed := true, recurses := true, named := ["ectype/functor.forms"], loops := true, apart := false, laid := [("ectype/functor.forms", laid_ectype_functor_forms)], narrowed := true }
def FixFormsUptoSaid : Prop := fixFormsUptoRow.holds Tryz.pinned (OpenSpec.upto fixFormsSpec)

/-- 'ectypelaw09.FixRounds', WHERE WHAT IT READS IS OF BULK AT MOST 1048576: true; the input reads as it did. -/
def fixRoundsUptoRow : OpenClaim := { program := "ytkjbakmlonpdjaagreatdoor", sum := "fac73bf69890a640fe109e558849e0a8bac5be59051a167a25246cdd2e607f04", func := "ectype/ectypelaw09.FixRounds", spec := "fixRounds", unfollowed := true, recurses := true, named := ["ectype/functor.forms", "ectype/logic.rules"], loops := true, apart := false, laid := [("ectype/functor.forms", laid_ectype_functor_forms), ("ectype/logic.rules", laid_ectype_logic_rules)], narrowed := true }
def FixRoundsUptoSaid : Prop := fixRoundsUptoRow.holds Tryz.pinned (OpenSpec.upto fixRoundsSpec)

end Rows
end Go.Proofs.YtkjbakmlonpdjaaGreatDoor
