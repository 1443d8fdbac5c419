/-
  NARROWER THAN 'FOR EVERY INPUT', by the rows' own cells (each row's printed sentence says how): BisimRelated: loops, laid · BisimOperations: loops, laid · BisimOwn: loops, laid.
  DERIVED. THE GIVEN ROWS OF THIS SEAT. 3 by the template 'for every input the law returns true; each argument reads behind the call as it read before'; 0 by the template 'total and deterministic' (their statements: YtkdkpeabkafebaaDoorTotals.lean).
  GIVEN WITH THE SEED: the statements are not yours to turn. If you find one false, say at which input.
  Laid BY PROGRAM, IN A SANDBOX (cutbox-rows.mjs): the forced cells as the released guide's own fill.sh prints them over the translation 03b8f9468b1a267c… (all of the seat's roots in one cut). By AI agents, Wed Nov 11 2026. No macro, syntax, notation, axiom, sorry.
-/
import Derived.Test.YtkdkpeabkafebaaDoorChecked
import GoSem.Claim
import GoSem.ClaimJoined
import GoSem.ClaimMapViews
import Derived.JoinedTies
import Derived.KernelRfl
namespace Go.Proofs.YtkdkpeabkafebaaDoor
/- THE CELL 'sum', in the pinned program and in every row, IS THE sha256 OF THE DUMP (.gsa) THAT YtkdkpeabkafebaaDoorProg.lean LOADS. Nothing in Lean hashes anything: it is a label: what it is worth is what the hold of that sum in a sandbox is worth. -/
noncomputable def Tryd.pinned : Pinned := { name := "ytkdkpeabkafebaadoor", sum := "03b8f9468b1a267c68b0eab4b2883185aacbe1c78f5341cf6f87eaef3e2a69fe", checked := Tryd.checked }
namespace Rows
def none {H : Type} : Left H := { results := [], args := [] }

/- WHAT THE LISTED PACKAGE-LEVEL VARIABLES READ AS WHEN THE CALL BEGINS. Each datum BY PROGRAM (the guide's laid-datum.mjs) off the statement by which the dump's own 'gosem.cut.vars' lays the variable. In a bare row this is a premise. The card (YtkdkpeabkafebaaDoorCards.lean) ties it to the program's text. -/
def laid_ectype_functor_forms {H : Type} : DataW H := .agg [.agg [.lit (.int .i64 0), .lit (.int .i64 0)], .agg [.lit (.int .i64 16), .lit (.int .i64 0)], .agg [.lit (.int .i64 0), .lit (.int .i64 2)], .agg [.lit (.int .i64 0), .lit (.int .i64 2)], .agg [.lit (.int .i64 4), .lit (.int .i64 1)], .agg [.lit (.int .i64 0), .lit (.int .i64 1)], .agg [.lit (.int .i64 0), .lit (.int .i64 1)], .agg [.lit (.int .i64 0), .lit (.int .i64 1)]]

/-- 'ectypelaw06.BisimRelated': WHATEVER THE INPUT: true; the input reads as it did. -/
def bisimRelatedSpec : ChangeSpec := { name := "bisimRelated", fn := fun _ => fun
  | [d1, d2, d3, d4, d5, d6] => { results := [.lit (.bool true)], args := [d1, d2, d3, d4, d5, d6] }
  | _ => none }
def bisimRelatedRow : OpenClaim := { program := "ytkdkpeabkafebaadoor", sum := "03b8f9468b1a267c68b0eab4b2883185aacbe1c78f5341cf6f87eaef3e2a69fe", func := "ectype/ectypelaw06.BisimRelated", spec := "bisimRelated", unfollowed := true, recurses := true, named := ["ectype/functor.forms"], loops := true, plainKeys := false, apart := false, laid := [("ectype/functor.forms", laid_ectype_functor_forms)] }
def BisimRelatedSaid : Prop := bisimRelatedRow.holds Tryd.pinned (OpenSpec.ofChange bisimRelatedSpec)

/-- ITS FALSE NEIGHBOUR: 'it returns false'. Refute it at one input. -/
def bisimRelatedWrong : ChangeSpec := { name := "bisimRelated", fn := fun _ => fun
  | [d1, d2, d3, d4, d5, d6] => { results := [.lit (.bool false)], args := [d1, d2, d3, d4, d5, d6] }
  | _ => none }
def BisimRelatedWrongFalsely : Prop := bisimRelatedRow.holds Tryd.pinned (OpenSpec.ofChange bisimRelatedWrong)

/-- 'ectypelaw06.BisimOperations': WHATEVER THE INPUT: true; the input reads as it did. -/
def bisimOperationsSpec : ChangeSpec := { name := "bisimOperations", fn := fun _ => fun
  | [d1, d2, d3] => { results := [.lit (.bool true)], args := [d1, d2, d3] }
  | _ => none }
def bisimOperationsRow : OpenClaim := { program := "ytkdkpeabkafebaadoor", sum := "03b8f9468b1a267c68b0eab4b2883185aacbe1c78f5341cf6f87eaef3e2a69fe", func := "ectype/ectypelaw06.BisimOperations", spec := "bisimOperations", unfollowed := true, recurses := true, named := ["ectype/functor.forms"], loops := true, plainKeys := false, apart := false, laid := [("ectype/functor.forms", laid_ectype_functor_forms)] }
def BisimOperationsSaid : Prop := bisimOperationsRow.holds Tryd.pinned (OpenSpec.ofChange bisimOperationsSpec)

/-- ITS FALSE NEIGHBOUR: 'it returns false'. Refute it at one input. -/
def bisimOperationsWrong : ChangeSpec := { name := "bisimOperations", fn := fun _ => fun
  | [d1, d2, d3] => { results := [.lit (.bool false)], args := [d1, d2, d3] }
  | _ => none }
def BisimOperationsWrongFalsely : Prop := bisimOperationsRow.holds Tryd.pinned (OpenSpec.ofChange bisimOperationsWrong)

/-- 'ectypelaw06.BisimOwn': WHATEVER THE INPUT: true; the input reads as it did. -/
def bisimOwnSpec : ChangeSpec := { name := "bisimOwn", fn := fun _ => fun
  | [d1, d2] => { results := [.lit (.bool true)], args := [d1, d2] }
  | _ => none }
def bisimOwnRow : OpenClaim := { program := "ytkdkpeabkafebaadoor", sum := "03b8f9468b1a267c68b0eab4b2883185aacbe1c78f5341cf6f87eaef3e2a69fe", func := "ectype/ectypelaw06.BisimOwn", spec := "bisimOwn", unfollowed := true, recurses := true, named := ["ectype/functor.forms"], loops := true, plainKeys := false, apart := false, laid := [("ectype/functor.forms", laid_ectype_functor_forms)] }
def BisimOwnSaid : Prop := bisimOwnRow.holds Tryd.pinned (OpenSpec.ofChange bisimOwnSpec)

/-- ITS FALSE NEIGHBOUR: 'it returns false'. Refute it at one input. -/
def bisimOwnWrong : ChangeSpec := { name := "bisimOwn", fn := fun _ => fun
  | [d1, d2] => { results := [.lit (.bool false)], args := [d1, d2] }
  | _ => none }
def BisimOwnWrongFalsely : Prop := bisimOwnRow.holds Tryd.pinned (OpenSpec.ofChange bisimOwnWrong)

/- THE SECOND FORM. 'bulk': how many values and letters a reading holds, each counted each time it is reached (what is shared counts as often as it is met; a slice's spare places count too). A statement '..UptoSaid' is the law's where the arguments, and the package variables that the reading takes, are together of bulk at most 1048576: NARROWER than '..Said'. Prove '..Said' where nothing that the law and all that it calls make is longer than what came in: it says more and counts as full. Else prove '..UptoSaid'. A law counts once. -/
mutual
def uptoBulk {H : Type} : DataW H → Nat
  | .lit (.string bytes) => bytes.length + 1
  | .lit _ => 1
  | .nil => 1
  | .ptr d => uptoBulk d + 1
  | .slice elems spare => uptoBulkAll elems + uptoBulkAll spare + 1
  | .agg parts => uptoBulkAll parts + 1
  | .iface _ d => uptoBulk d + 1
  | .map entries => uptoBulkEntries entries + 1
  | .held _ => 1
def uptoBulkAll {H : Type} : List (DataW H) → Nat
  | [] => 0
  | d :: r => uptoBulk d + uptoBulkAll r
def uptoBulkEntries {H : Type} : List (Lit × DataW H) → Nat
  | [] => 0
  | x :: r => uptoBulkEntry x + uptoBulkEntries r
def uptoBulkEntry {H : Type} : Lit × DataW H → Nat
  | (.string bytes, d) => bytes.length + uptoBulk d + 1
  | (_, d) => uptoBulk d + 1
 end
def uptoSmall : (H : Type) → List (DataW H) → Bool := fun _ ds => decide (uptoBulkAll ds ≤ 1048576)
def OpenSpec.upto (s : _root_.Go.ChangeSpec) : _root_.Go.OpenSpec := { _root_.Go.OpenSpec.ofChange s with cond := some uptoSmall }

/-- 'ectypelaw06.BisimRelated', WHERE WHAT IT READS IS OF BULK AT MOST 1048576: true; the input reads as it did. -/
def bisimRelatedUptoRow : OpenClaim := { program := "ytkdkpeabkafebaadoor", sum := "03b8f9468b1a267c68b0eab4b2883185aacbe1c78f5341cf6f87eaef3e2a69fe", func := "ectype/ectypelaw06.BisimRelated", spec := "bisimRelated", unfollowed := true, recurses := true, named := ["ectype/functor.forms"], loops := true, plainKeys := false, apart := false, laid := [("ectype/functor.forms", laid_ectype_functor_forms)], narrowed := true }
def BisimRelatedUptoSaid : Prop := bisimRelatedUptoRow.holds Tryd.pinned (OpenSpec.upto bisimRelatedSpec)

/-- 'ectypelaw06.BisimOperations', WHERE WHAT IT READS IS OF BULK AT MOST 1048576: true; the input reads as it did. -/
def bisimOperationsUptoRow : OpenClaim := { program := "ytkdkpeabkafebaadoor", sum := "03b8f9468b1a267c68b0eab4b2883185aacbe1c78f5341cf6f87eaef3e2a69fe", func := "ectype/ectypelaw06.BisimOperations", spec := "bisimOperations", unfollowed := true, recurses := true, named := ["ectype/functor.forms"], loops := true, plainKeys := false, apart := false, laid := [("ectype/functor.forms", laid_ectype_functor_forms)], narrowed := true }
def BisimOperationsUptoSaid : Prop := bisimOperationsUptoRow.holds Tryd.pinned (OpenSpec.upto bisimOperationsSpec)

/-- 'ectypelaw06.BisimOwn', WHERE WHAT IT READS IS OF BULK AT MOST 1048576: true; the input reads as it did. -/
def bisimOwnUptoRow : OpenClaim := { program := "ytkdkpeabkafebaadoor", sum := "03b8f9468b1a267c68b0eab4b2883185aacbe1c78f5341cf6f87eaef3e2a69fe", func := "ectype/ectypelaw06.BisimOwn", spec := "bisimOwn", unfollowed := true, recurses := true, named := ["ectype/functor.forms"], loops := true, plainKeys := false, apart := false, laid := [("ectype/functor.forms", laid_ectype_functor_forms)], narrowed := true }
def BisimOwnUptoSaid : Prop := bisimOwnUptoRow.holds Tryd.pinned (OpenSpec.upto bisimOwnSpec)

end Rows
end Go.Proofs.YtkdkpeabkafebaaDoor
