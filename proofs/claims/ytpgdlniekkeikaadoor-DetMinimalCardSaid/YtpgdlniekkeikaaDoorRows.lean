/-
  NARROWER THAN 'FOR EVERY INPUT', by the rows' own cells (each row's printed sentence says how): UptoCloses: laid · UptoCongruence: laid · DetAutomata: loops, laid · UptoSound: loops, laid · UptoEqual: loops, laid · DetLanguages: loops, laid · UptoRight: loops, laid · DetWords: loops, laid · DetReverses: loops, laid · DetMinimal: loops, laid.
  DERIVED. THE GIVEN ROWS OF THIS SEAT. 10 by the template 'for every input the law returns true; each argument reads behind the call as it read before'; 0 by the template 'total and deterministic' (their statements: YtpgdlniekkeikaaDoorTotals.lean).
  GIVEN WITH THE SEED: the statements are not yours to turn. If you find one false, say at which input.
  Laid BY PROGRAM, IN A SANDBOX (cutbox-rows.mjs): the forced cells as the released guide's own fill.sh prints them over the translation 3044778aa34fae7e… (all of the seat's roots in one cut). By AI agents, Wed Nov 11 2026. No macro, syntax, notation, axiom, sorry.
-/
import Derived.Test.YtpgdlniekkeikaaDoorChecked
import GoSem.Claim
import GoSem.ClaimJoined
import GoSem.ClaimMapViews
import Derived.JoinedTies
import Derived.KernelRfl
namespace Go.Proofs.YtpgdlniekkeikaaDoor
/- THE CELL 'sum', in the pinned program and in every row, IS THE sha256 OF THE DUMP (.gsa) THAT YtpgdlniekkeikaaDoorProg.lean LOADS. Nothing in Lean hashes anything: it is a label: what it is worth is what the hold of that sum in a sandbox is worth. -/
noncomputable def Tryd.pinned : Pinned := { name := "ytpgdlniekkeikaadoor", sum := "3044778aa34fae7ebfd68eac6484608a30b1acd1190cdad5d661823c6d925503", checked := Tryd.checked }
namespace Rows
def none {H : Type} : Left H := { results := [], args := [] }

/- WHAT THE LISTED PACKAGE-LEVEL VARIABLES READ AS WHEN THE CALL BEGINS. Each datum BY PROGRAM (the guide's laid-datum.mjs) off the statement by which the dump's own 'gosem.cut.vars' lays the variable. In a bare row this is a premise. The card (YtpgdlniekkeikaaDoorCards.lean) ties it to the program's text. -/
def laid_ectype_functor_forms {H : Type} : DataW H := .agg [.agg [.lit (.int .i64 0), .lit (.int .i64 0)], .agg [.lit (.int .i64 16), .lit (.int .i64 0)], .agg [.lit (.int .i64 0), .lit (.int .i64 2)], .agg [.lit (.int .i64 0), .lit (.int .i64 2)], .agg [.lit (.int .i64 4), .lit (.int .i64 1)], .agg [.lit (.int .i64 0), .lit (.int .i64 1)], .agg [.lit (.int .i64 0), .lit (.int .i64 1)], .agg [.lit (.int .i64 0), .lit (.int .i64 1)]]

/-- 'ectypelaw16.UptoCloses': WHATEVER THE INPUT: true; the input reads as it did. -/
def uptoClosesSpec : ChangeSpec := { name := "uptoCloses", fn := fun _ => fun
  | [d1, d2, d3, d4] => { results := [.lit (.bool true)], args := [d1, d2, d3, d4] }
  | _ => none }
def uptoClosesRow : OpenClaim := { program := "ytpgdlniekkeikaadoor", sum := "3044778aa34fae7ebfd68eac6484608a30b1acd1190cdad5d661823c6d925503", func := "ectype/ectypelaw16.UptoCloses", spec := "uptoCloses", unfollowed := true, recurses := true, named := ["ectype/functor.forms"], plainKeys := false, apart := false, laid := [("ectype/functor.forms", laid_ectype_functor_forms)] }
def UptoClosesSaid : Prop := uptoClosesRow.holds Tryd.pinned (OpenSpec.ofChange uptoClosesSpec)

/-- ITS FALSE NEIGHBOUR: 'it returns false'. Refute it at one input. -/
def uptoClosesWrong : ChangeSpec := { name := "uptoCloses", fn := fun _ => fun
  | [d1, d2, d3, d4] => { results := [.lit (.bool false)], args := [d1, d2, d3, d4] }
  | _ => none }
def UptoClosesWrongFalsely : Prop := uptoClosesRow.holds Tryd.pinned (OpenSpec.ofChange uptoClosesWrong)

/-- 'ectypelaw16.UptoCongruence': WHATEVER THE INPUT: true; the input reads as it did. -/
def uptoCongruenceSpec : ChangeSpec := { name := "uptoCongruence", fn := fun _ => fun
  | [d1, d2, d3, d4, d5, d6] => { results := [.lit (.bool true)], args := [d1, d2, d3, d4, d5, d6] }
  | _ => none }
def uptoCongruenceRow : OpenClaim := { program := "ytpgdlniekkeikaadoor", sum := "3044778aa34fae7ebfd68eac6484608a30b1acd1190cdad5d661823c6d925503", func := "ectype/ectypelaw16.UptoCongruence", spec := "uptoCongruence", unfollowed := true, recurses := true, named := ["ectype/functor.forms"], plainKeys := false, apart := false, laid := [("ectype/functor.forms", laid_ectype_functor_forms)] }
def UptoCongruenceSaid : Prop := uptoCongruenceRow.holds Tryd.pinned (OpenSpec.ofChange uptoCongruenceSpec)

/-- ITS FALSE NEIGHBOUR: 'it returns false'. Refute it at one input. -/
def uptoCongruenceWrong : ChangeSpec := { name := "uptoCongruence", fn := fun _ => fun
  | [d1, d2, d3, d4, d5, d6] => { results := [.lit (.bool false)], args := [d1, d2, d3, d4, d5, d6] }
  | _ => none }
def UptoCongruenceWrongFalsely : Prop := uptoCongruenceRow.holds Tryd.pinned (OpenSpec.ofChange uptoCongruenceWrong)

/-- 'ectypelaw15.DetAutomata': WHATEVER THE INPUT: true; the input reads as it did. -/
def detAutomataSpec : ChangeSpec := { name := "detAutomata", fn := fun _ => fun
  | [d1, d2] => { results := [.lit (.bool true)], args := [d1, d2] }
  | _ => none }
def detAutomataRow : OpenClaim := { program := "ytpgdlniekkeikaadoor", sum := "3044778aa34fae7ebfd68eac6484608a30b1acd1190cdad5d661823c6d925503", func := "ectype/ectypelaw15.DetAutomata", spec := "detAutomata", unfollowed := true, recurses := true, named := ["ectype/functor.forms"], loops := true, plainKeys := false, apart := false, laid := [("ectype/functor.forms", laid_ectype_functor_forms)] }
def DetAutomataSaid : Prop := detAutomataRow.holds Tryd.pinned (OpenSpec.ofChange detAutomataSpec)

/-- ITS FALSE NEIGHBOUR: 'it returns false'. Refute it at one input. -/
def detAutomataWrong : ChangeSpec := { name := "detAutomata", fn := fun _ => fun
  | [d1, d2] => { results := [.lit (.bool false)], args := [d1, d2] }
  | _ => none }
def DetAutomataWrongFalsely : Prop := detAutomataRow.holds Tryd.pinned (OpenSpec.ofChange detAutomataWrong)

/-- 'ectypelaw16.UptoSound': WHATEVER THE INPUT: true; the input reads as it did. -/
def uptoSoundSpec : ChangeSpec := { name := "uptoSound", fn := fun _ => fun
  | [d1, d2, d3, d4] => { results := [.lit (.bool true)], args := [d1, d2, d3, d4] }
  | _ => none }
def uptoSoundRow : OpenClaim := { program := "ytpgdlniekkeikaadoor", sum := "3044778aa34fae7ebfd68eac6484608a30b1acd1190cdad5d661823c6d925503", func := "ectype/ectypelaw16.UptoSound", spec := "uptoSound", unfollowed := true, recurses := true, named := ["ectype/functor.forms"], loops := true, plainKeys := false, apart := false, laid := [("ectype/functor.forms", laid_ectype_functor_forms)] }
def UptoSoundSaid : Prop := uptoSoundRow.holds Tryd.pinned (OpenSpec.ofChange uptoSoundSpec)

/-- ITS FALSE NEIGHBOUR: 'it returns false'. Refute it at one input. -/
def uptoSoundWrong : ChangeSpec := { name := "uptoSound", fn := fun _ => fun
  | [d1, d2, d3, d4] => { results := [.lit (.bool false)], args := [d1, d2, d3, d4] }
  | _ => none }
def UptoSoundWrongFalsely : Prop := uptoSoundRow.holds Tryd.pinned (OpenSpec.ofChange uptoSoundWrong)

/-- 'ectypelaw16.UptoEqual': WHATEVER THE INPUT: true; the input reads as it did. -/
def uptoEqualSpec : ChangeSpec := { name := "uptoEqual", fn := fun _ => fun
  | [d1, d2, d3] => { results := [.lit (.bool true)], args := [d1, d2, d3] }
  | _ => none }
def uptoEqualRow : OpenClaim := { program := "ytpgdlniekkeikaadoor", sum := "3044778aa34fae7ebfd68eac6484608a30b1acd1190cdad5d661823c6d925503", func := "ectype/ectypelaw16.UptoEqual", spec := "uptoEqual", unfollowed := true, recurses := true, named := ["ectype/functor.forms"], loops := true, plainKeys := false, apart := false, laid := [("ectype/functor.forms", laid_ectype_functor_forms)] }
def UptoEqualSaid : Prop := uptoEqualRow.holds Tryd.pinned (OpenSpec.ofChange uptoEqualSpec)

/-- ITS FALSE NEIGHBOUR: 'it returns false'. Refute it at one input. -/
def uptoEqualWrong : ChangeSpec := { name := "uptoEqual", fn := fun _ => fun
  | [d1, d2, d3] => { results := [.lit (.bool false)], args := [d1, d2, d3] }
  | _ => none }
def UptoEqualWrongFalsely : Prop := uptoEqualRow.holds Tryd.pinned (OpenSpec.ofChange uptoEqualWrong)

/-- 'ectypelaw15.DetLanguages': WHATEVER THE INPUT: true; the input reads as it did. -/
def detLanguagesSpec : ChangeSpec := { name := "detLanguages", fn := fun _ => fun
  | [d1, d2, d3] => { results := [.lit (.bool true)], args := [d1, d2, d3] }
  | _ => none }
def detLanguagesRow : OpenClaim := { program := "ytpgdlniekkeikaadoor", sum := "3044778aa34fae7ebfd68eac6484608a30b1acd1190cdad5d661823c6d925503", func := "ectype/ectypelaw15.DetLanguages", spec := "detLanguages", unfollowed := true, recurses := true, named := ["ectype/functor.forms"], loops := true, plainKeys := false, apart := false, laid := [("ectype/functor.forms", laid_ectype_functor_forms)] }
def DetLanguagesSaid : Prop := detLanguagesRow.holds Tryd.pinned (OpenSpec.ofChange detLanguagesSpec)

/-- ITS FALSE NEIGHBOUR: 'it returns false'. Refute it at one input. -/
def detLanguagesWrong : ChangeSpec := { name := "detLanguages", fn := fun _ => fun
  | [d1, d2, d3] => { results := [.lit (.bool false)], args := [d1, d2, d3] }
  | _ => none }
def DetLanguagesWrongFalsely : Prop := detLanguagesRow.holds Tryd.pinned (OpenSpec.ofChange detLanguagesWrong)

/-- 'ectypelaw16.UptoRight': WHATEVER THE INPUT: true; the input reads as it did. -/
def uptoRightSpec : ChangeSpec := { name := "uptoRight", fn := fun _ => fun
  | [d1, d2, d3, d4, d5] => { results := [.lit (.bool true)], args := [d1, d2, d3, d4, d5] }
  | _ => none }
def uptoRightRow : OpenClaim := { program := "ytpgdlniekkeikaadoor", sum := "3044778aa34fae7ebfd68eac6484608a30b1acd1190cdad5d661823c6d925503", func := "ectype/ectypelaw16.UptoRight", spec := "uptoRight", unfollowed := true, recurses := true, named := ["ectype/functor.forms"], loops := true, plainKeys := false, apart := false, laid := [("ectype/functor.forms", laid_ectype_functor_forms)] }
def UptoRightSaid : Prop := uptoRightRow.holds Tryd.pinned (OpenSpec.ofChange uptoRightSpec)

/-- ITS FALSE NEIGHBOUR: 'it returns false'. Refute it at one input. -/
def uptoRightWrong : ChangeSpec := { name := "uptoRight", fn := fun _ => fun
  | [d1, d2, d3, d4, d5] => { results := [.lit (.bool false)], args := [d1, d2, d3, d4, d5] }
  | _ => none }
def UptoRightWrongFalsely : Prop := uptoRightRow.holds Tryd.pinned (OpenSpec.ofChange uptoRightWrong)

/-- 'ectypelaw15.DetWords': WHATEVER THE INPUT: true; the input reads as it did. -/
def detWordsSpec : ChangeSpec := { name := "detWords", fn := fun _ => fun
  | [d1, d2, d3, d4] => { results := [.lit (.bool true)], args := [d1, d2, d3, d4] }
  | _ => none }
def detWordsRow : OpenClaim := { program := "ytpgdlniekkeikaadoor", sum := "3044778aa34fae7ebfd68eac6484608a30b1acd1190cdad5d661823c6d925503", func := "ectype/ectypelaw15.DetWords", spec := "detWords", unfollowed := true, recurses := true, named := ["ectype/functor.forms"], loops := true, plainKeys := false, apart := false, laid := [("ectype/functor.forms", laid_ectype_functor_forms)] }
def DetWordsSaid : Prop := detWordsRow.holds Tryd.pinned (OpenSpec.ofChange detWordsSpec)

/-- ITS FALSE NEIGHBOUR: 'it returns false'. Refute it at one input. -/
def detWordsWrong : ChangeSpec := { name := "detWords", fn := fun _ => fun
  | [d1, d2, d3, d4] => { results := [.lit (.bool false)], args := [d1, d2, d3, d4] }
  | _ => none }
def DetWordsWrongFalsely : Prop := detWordsRow.holds Tryd.pinned (OpenSpec.ofChange detWordsWrong)

/-- 'ectypelaw15.DetReverses': WHATEVER THE INPUT: true; the input reads as it did. -/
def detReversesSpec : ChangeSpec := { name := "detReverses", fn := fun _ => fun
  | [d1, d2, d3, d4] => { results := [.lit (.bool true)], args := [d1, d2, d3, d4] }
  | _ => none }
def detReversesRow : OpenClaim := { program := "ytpgdlniekkeikaadoor", sum := "3044778aa34fae7ebfd68eac6484608a30b1acd1190cdad5d661823c6d925503", func := "ectype/ectypelaw15.DetReverses", spec := "detReverses", unfollowed := true, recurses := true, named := ["ectype/functor.forms"], loops := true, plainKeys := false, apart := false, laid := [("ectype/functor.forms", laid_ectype_functor_forms)] }
def DetReversesSaid : Prop := detReversesRow.holds Tryd.pinned (OpenSpec.ofChange detReversesSpec)

/-- ITS FALSE NEIGHBOUR: 'it returns false'. Refute it at one input. -/
def detReversesWrong : ChangeSpec := { name := "detReverses", fn := fun _ => fun
  | [d1, d2, d3, d4] => { results := [.lit (.bool false)], args := [d1, d2, d3, d4] }
  | _ => none }
def DetReversesWrongFalsely : Prop := detReversesRow.holds Tryd.pinned (OpenSpec.ofChange detReversesWrong)

/-- 'ectypelaw15.DetMinimal': WHATEVER THE INPUT: true; the input reads as it did. -/
def detMinimalSpec : ChangeSpec := { name := "detMinimal", fn := fun _ => fun
  | [d1, d2, d3] => { results := [.lit (.bool true)], args := [d1, d2, d3] }
  | _ => none }
def detMinimalRow : OpenClaim := { program := "ytpgdlniekkeikaadoor", sum := "3044778aa34fae7ebfd68eac6484608a30b1acd1190cdad5d661823c6d925503", func := "ectype/ectypelaw15.DetMinimal", spec := "detMinimal", unfollowed := true, recurses := true, named := ["ectype/functor.forms"], loops := true, plainKeys := false, apart := false, laid := [("ectype/functor.forms", laid_ectype_functor_forms)] }
def DetMinimalSaid : Prop := detMinimalRow.holds Tryd.pinned (OpenSpec.ofChange detMinimalSpec)

/-- ITS FALSE NEIGHBOUR: 'it returns false'. Refute it at one input. -/
def detMinimalWrong : ChangeSpec := { name := "detMinimal", fn := fun _ => fun
  | [d1, d2, d3] => { results := [.lit (.bool false)], args := [d1, d2, d3] }
  | _ => none }
def DetMinimalWrongFalsely : Prop := detMinimalRow.holds Tryd.pinned (OpenSpec.ofChange detMinimalWrong)

/- THE SECOND FORM. 'bulk': how many values and letters a reading holds, each counted each time it is reached (what is shared counts as often as it is met; a slice's spare places count too). A statement '..UptoSaid' is the law's where the arguments, and the package variables that the reading takes, are together of bulk at most 1048576: NARROWER than '..Said'. Prove '..Said' where nothing that the law and all that it calls make is longer than what came in: it says more and counts as full. Else prove '..UptoSaid'. A law counts once. -/
mutual
def uptoBulk {H : Type} : DataW H → Nat
  | .lit (.string bytes) => bytes.length + 1
  | .lit _ => 1
  | .nil => 1
  | .ptr d => uptoBulk d + 1
  | .slice elems spare => uptoBulkAll elems + uptoBulkAll spare + 1
  | .agg parts => uptoBulkAll parts + 1
  | .iface _ d => uptoBulk d + 1
  | .map entries => uptoBulkEntries entries + 1
  | .held _ => 1
def uptoBulkAll {H : Type} : List (DataW H) → Nat
  | [] => 0
  | d :: r => uptoBulk d + uptoBulkAll r
def uptoBulkEntries {H : Type} : List (Lit × DataW H) → Nat
  | [] => 0
  | x :: r => uptoBulkEntry x + uptoBulkEntries r
def uptoBulkEntry {H : Type} : Lit × DataW H → Nat
  | (.string bytes, d) => bytes.length + uptoBulk d + 1
  | (_, d) => uptoBulk d + 1
 end
def uptoSmall : (H : Type) → List (DataW H) → Bool := fun _ ds => decide (uptoBulkAll ds ≤ 1048576)
def OpenSpec.upto (s : _root_.Go.ChangeSpec) : _root_.Go.OpenSpec := { _root_.Go.OpenSpec.ofChange s with cond := some uptoSmall }

/-- 'ectypelaw16.UptoCloses', WHERE WHAT IT READS IS OF BULK AT MOST 1048576: true; the input reads as it did. -/
def uptoClosesUptoRow : OpenClaim := { program := "ytpgdlniekkeikaadoor", sum := "3044778aa34fae7ebfd68eac6484608a30b1acd1190cdad5d661823c6d925503", func := "ectype/ectypelaw16.UptoCloses", spec := "uptoCloses", unfollowed := true, recurses := true, named := ["ectype/functor.forms"], plainKeys := false, apart := false, laid := [("ectype/functor.forms", laid_ectype_functor_forms)], narrowed := true }
def UptoClosesUptoSaid : Prop := uptoClosesUptoRow.holds Tryd.pinned (OpenSpec.upto uptoClosesSpec)

/-- 'ectypelaw16.UptoCongruence', WHERE WHAT IT READS IS OF BULK AT MOST 1048576: true; the input reads as it did. -/
def uptoCongruenceUptoRow : OpenClaim := { program := "ytpgdlniekkeikaadoor", sum := "3044778aa34fae7ebfd68eac6484608a30b1acd1190cdad5d661823c6d925503", func := "ectype/ectypelaw16.UptoCongruence", spec := "uptoCongruence", unfollowed := true, recurses := true, named := ["ectype/functor.forms"], plainKeys := false, apart := false, laid := [("ectype/functor.forms", laid_ectype_functor_forms)], narrowed := true }
def UptoCongruenceUptoSaid : Prop := uptoCongruenceUptoRow.holds Tryd.pinned (OpenSpec.upto uptoCongruenceSpec)

/-- 'ectypelaw15.DetAutomata', WHERE WHAT IT READS IS OF BULK AT MOST 1048576: true; the input reads as it did. -/
def detAutomataUptoRow : OpenClaim := { program := "ytpgdlniekkeikaadoor", sum := "3044778aa34fae7ebfd68eac6484608a30b1acd1190cdad5d661823c6d925503", func := "ectype/ectypelaw15.DetAutomata", spec := "detAutomata", unfollowed := true, recurses := true, named := ["ectype/functor.forms"], loops := true, plainKeys := false, apart := false, laid := [("ectype/functor.forms", laid_ectype_functor_forms)], narrowed := true }
def DetAutomataUptoSaid : Prop := detAutomataUptoRow.holds Tryd.pinned (OpenSpec.upto detAutomataSpec)

/-- 'ectypelaw16.UptoSound', WHERE WHAT IT READS IS OF BULK AT MOST 1048576: true; the input reads as it did. -/
def uptoSoundUptoRow : OpenClaim := { program := "ytpgdlniekkeikaadoor", sum := "3044778aa34fae7ebfd68eac6484608a30b1acd1190cdad5d661823c6d925503", func := "ectype/ectypelaw16.UptoSound", spec := "uptoSound", unfollowed := true, recurses := true, named := ["ectype/functor.forms"], loops := true, plainKeys := false, apart := false, laid := [("ectype/functor.forms", laid_ectype_functor_forms)], narrowed := true }
def UptoSoundUptoSaid : Prop := uptoSoundUptoRow.holds Tryd.pinned (OpenSpec.upto uptoSoundSpec)

/-- 'ectypelaw16.UptoEqual', WHERE WHAT IT READS IS OF BULK AT MOST 1048576: true; the input reads as it did. -/
def uptoEqualUptoRow : OpenClaim := { program := "ytpgdlniekkeikaadoor", sum := "3044778aa34fae7ebfd68eac6484608a30b1acd1190cdad5d661823c6d925503", func := "ectype/ectypelaw16.UptoEqual", spec := "uptoEqual", unfollowed := true, recurses := true, named := ["ectype/functor.forms"], loops := true, plainKeys := false, apart := false, laid := [("ectype/functor.forms", laid_ectype_functor_forms)], narrowed := true }
def UptoEqualUptoSaid : Prop := uptoEqualUptoRow.holds Tryd.pinned (OpenSpec.upto uptoEqualSpec)

/-- 'ectypelaw15.DetLanguages', WHERE WHAT IT READS IS OF BULK AT MOST 1048576: true; the input reads as it did. -/
def detLanguagesUptoRow : OpenClaim := { program := "ytpgdlniekkeikaadoor", sum := "3044778aa34fae7ebfd68eac6484608a30b1acd1190cdad5d661823c6d925503", func := "ectype/ectypelaw15.DetLanguages", spec := "detLanguages", unfollowed := true, recurses := true, named := ["ectype/functor.forms"], loops := true, plainKeys := false, apart := false, laid := [("ectype/functor.forms", laid_ectype_functor_forms)], narrowed := true }
def DetLanguagesUptoSaid : Prop := detLanguagesUptoRow.holds Tryd.pinned (OpenSpec.upto detLanguagesSpec)

/-- 'ectypelaw16.UptoRight', WHERE WHAT IT READS IS OF BULK AT MOST 1048576: true; the input reads as it did. -/
def uptoRightUptoRow : OpenClaim := { program := "ytpgdlniekkeikaadoor", sum := "3044778aa34fae7ebfd68eac6484608a30b1acd1190cdad5d661823c6d925503", func := "ectype/ectypelaw16.UptoRight", spec := "uptoRight", unfollowed := true, recurses := true, named := ["ectype/functor.forms"], loops := true, plainKeys := false, apart := false, laid := [("ectype/functor.forms", laid_ectype_functor_forms)], narrowed := true }
def UptoRightUptoSaid : Prop := uptoRightUptoRow.holds Tryd.pinned (OpenSpec.upto uptoRightSpec)

/-- 'ectypelaw15.DetWords', WHERE WHAT IT READS IS OF BULK AT MOST 1048576: true; the input reads as it did. -/
def detWordsUptoRow : OpenClaim := { program := "ytpgdlniekkeikaadoor", sum := "3044778aa34fae7ebfd68eac6484608a30b1acd1190cdad5d661823c6d925503", func := "ectype/ectypelaw15.DetWords", spec := "detWords", unfollowed := true, recurses := true, named := ["ectype/functor.forms"], loops := true, plainKeys := false, apart := false, laid := [("ectype/functor.forms", laid_ectype_functor_forms)], narrowed := true }
def DetWordsUptoSaid : Prop := detWordsUptoRow.holds Tryd.pinned (OpenSpec.upto detWordsSpec)

/-- 'ectypelaw15.DetReverses', WHERE WHAT IT READS IS OF BULK AT MOST 1048576: true; the input reads as it did. -/
def detReversesUptoRow : OpenClaim := { program := "ytpgdlniekkeikaadoor", sum := "3044778aa34fae7ebfd68eac6484608a30b1acd1190cdad5d661823c6d925503", func := "ectype/ectypelaw15.DetReverses", spec := "detReverses", unfollowed := true, recurses := true, named := ["ectype/functor.forms"], loops := true, plainKeys := false, apart := false, laid := [("ectype/functor.forms", laid_ectype_functor_forms)], narrowed := true }
def DetReversesUptoSaid : Prop := detReversesUptoRow.holds Tryd.pinned (OpenSpec.upto detReversesSpec)

/-- 'ectypelaw15.DetMinimal', WHERE WHAT IT READS IS OF BULK AT MOST 1048576: true; the input reads as it did. -/
def detMinimalUptoRow : OpenClaim := { program := "ytpgdlniekkeikaadoor", sum := "3044778aa34fae7ebfd68eac6484608a30b1acd1190cdad5d661823c6d925503", func := "ectype/ectypelaw15.DetMinimal", spec := "detMinimal", unfollowed := true, recurses := true, named := ["ectype/functor.forms"], loops := true, plainKeys := false, apart := false, laid := [("ectype/functor.forms", laid_ectype_functor_forms)], narrowed := true }
def DetMinimalUptoSaid : Prop := detMinimalUptoRow.holds Tryd.pinned (OpenSpec.upto detMinimalSpec)

end Rows
end Go.Proofs.YtpgdlniekkeikaaDoor
