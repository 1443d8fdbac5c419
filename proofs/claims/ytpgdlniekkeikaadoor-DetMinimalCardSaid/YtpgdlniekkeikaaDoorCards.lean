/-
  DERIVED. GIVEN WITH THE SEED: THE CARDS: each row of YtpgdlniekkeikaaDoorRows.lean that lists a variable, with what it lists TIED to the program's text (the seventh form; the later family's looks); each row that meets fmt, with fmt's text TOLD by the authors' own Lean function (tested against real Go, not proved from fmt's source: count such statements apart). THE CARD IS WHAT COUNTS. Prove the row's statement (the work); the ties are given (YtpgdlniekkeikaaDoorTie.lean); close each card by the builder's one call (the guide's Derived/Test/ToyasCard.lean, 'card_holds'). Laid BY PROGRAM, IN A SANDBOX (cutbox-door.mjs). By AI agents, Wed Nov 11 2026. No macro, syntax, notation, axiom, sorry.
-/
import Derived.Test.YtpgdlniekkeikaaDoorRows
import GoSem.ClaimSeven
namespace Go.Proofs.YtpgdlniekkeikaaDoor
namespace Rows

/-- THE TIED CARD OF 'ectypelaw16.UptoCloses'. -/
def uptoClosesCard : Claim7 := { stood := { row := uptoClosesRow, standIns := [], harness := (true, "083f600fa324912a3f64b4a9d9348dcca761660d41196ed62dae77b3effad808"), looks := false }, kinds := [], alts := [], laidByText := true, laidKinds := [.data], laidTests := true, laidLooks := .later }
def UptoClosesCardSaid : Prop := Claim7.holds Tryd.pinned (.plain (OpenSpec.ofChange uptoClosesSpec)) uptoClosesCard

/-- THE TIED CARD OF 'ectypelaw16.UptoCongruence'. -/
def uptoCongruenceCard : Claim7 := { stood := { row := uptoCongruenceRow, standIns := [], harness := (true, "083f600fa324912a3f64b4a9d9348dcca761660d41196ed62dae77b3effad808"), looks := false }, kinds := [], alts := [], laidByText := true, laidKinds := [.data], laidTests := true, laidLooks := .later }
def UptoCongruenceCardSaid : Prop := Claim7.holds Tryd.pinned (.plain (OpenSpec.ofChange uptoCongruenceSpec)) uptoCongruenceCard

/-- THE TIED CARD OF 'ectypelaw15.DetAutomata'. -/
def detAutomataCard : Claim7 := { stood := { row := detAutomataRow, standIns := [], harness := (true, "083f600fa324912a3f64b4a9d9348dcca761660d41196ed62dae77b3effad808"), looks := false }, kinds := [], alts := [], laidByText := true, laidKinds := [.data], laidTests := true, laidLooks := .later }
def DetAutomataCardSaid : Prop := Claim7.holds Tryd.pinned (.plain (OpenSpec.ofChange detAutomataSpec)) detAutomataCard

/-- THE TIED CARD OF 'ectypelaw16.UptoSound'. -/
def uptoSoundCard : Claim7 := { stood := { row := uptoSoundRow, standIns := [], harness := (true, "083f600fa324912a3f64b4a9d9348dcca761660d41196ed62dae77b3effad808"), looks := false }, kinds := [], alts := [], laidByText := true, laidKinds := [.data], laidTests := true, laidLooks := .later }
def UptoSoundCardSaid : Prop := Claim7.holds Tryd.pinned (.plain (OpenSpec.ofChange uptoSoundSpec)) uptoSoundCard

/-- THE TIED CARD OF 'ectypelaw16.UptoEqual'. -/
def uptoEqualCard : Claim7 := { stood := { row := uptoEqualRow, standIns := [], harness := (true, "083f600fa324912a3f64b4a9d9348dcca761660d41196ed62dae77b3effad808"), looks := false }, kinds := [], alts := [], laidByText := true, laidKinds := [.data], laidTests := true, laidLooks := .later }
def UptoEqualCardSaid : Prop := Claim7.holds Tryd.pinned (.plain (OpenSpec.ofChange uptoEqualSpec)) uptoEqualCard

/-- THE TIED CARD OF 'ectypelaw15.DetLanguages'. -/
def detLanguagesCard : Claim7 := { stood := { row := detLanguagesRow, standIns := [], harness := (true, "083f600fa324912a3f64b4a9d9348dcca761660d41196ed62dae77b3effad808"), looks := false }, kinds := [], alts := [], laidByText := true, laidKinds := [.data], laidTests := true, laidLooks := .later }
def DetLanguagesCardSaid : Prop := Claim7.holds Tryd.pinned (.plain (OpenSpec.ofChange detLanguagesSpec)) detLanguagesCard

/-- THE TIED CARD OF 'ectypelaw16.UptoRight'. -/
def uptoRightCard : Claim7 := { stood := { row := uptoRightRow, standIns := [], harness := (true, "083f600fa324912a3f64b4a9d9348dcca761660d41196ed62dae77b3effad808"), looks := false }, kinds := [], alts := [], laidByText := true, laidKinds := [.data], laidTests := true, laidLooks := .later }
def UptoRightCardSaid : Prop := Claim7.holds Tryd.pinned (.plain (OpenSpec.ofChange uptoRightSpec)) uptoRightCard

/-- THE TIED CARD OF 'ectypelaw15.DetWords'. -/
def detWordsCard : Claim7 := { stood := { row := detWordsRow, standIns := [], harness := (true, "083f600fa324912a3f64b4a9d9348dcca761660d41196ed62dae77b3effad808"), looks := false }, kinds := [], alts := [], laidByText := true, laidKinds := [.data], laidTests := true, laidLooks := .later }
def DetWordsCardSaid : Prop := Claim7.holds Tryd.pinned (.plain (OpenSpec.ofChange detWordsSpec)) detWordsCard

/-- THE TIED CARD OF 'ectypelaw15.DetReverses'. -/
def detReversesCard : Claim7 := { stood := { row := detReversesRow, standIns := [], harness := (true, "083f600fa324912a3f64b4a9d9348dcca761660d41196ed62dae77b3effad808"), looks := false }, kinds := [], alts := [], laidByText := true, laidKinds := [.data], laidTests := true, laidLooks := .later }
def DetReversesCardSaid : Prop := Claim7.holds Tryd.pinned (.plain (OpenSpec.ofChange detReversesSpec)) detReversesCard

/-- THE TIED CARD OF 'ectypelaw15.DetMinimal'. -/
def detMinimalCard : Claim7 := { stood := { row := detMinimalRow, standIns := [], harness := (true, "083f600fa324912a3f64b4a9d9348dcca761660d41196ed62dae77b3effad808"), looks := false }, kinds := [], alts := [], laidByText := true, laidKinds := [.data], laidTests := true, laidLooks := .later }
def DetMinimalCardSaid : Prop := Claim7.holds Tryd.pinned (.plain (OpenSpec.ofChange detMinimalSpec)) detMinimalCard

/-- THE SECOND FORM's CARD OF 'ectypelaw16.UptoCloses'. -/
def uptoClosesUptoCard : Claim7 := { stood := { row := uptoClosesUptoRow, standIns := [], harness := (true, "083f600fa324912a3f64b4a9d9348dcca761660d41196ed62dae77b3effad808"), looks := false }, kinds := [], alts := [], laidByText := true, laidKinds := [.data], laidTests := true, laidLooks := .later }
def UptoClosesUptoCardSaid : Prop := Claim7.holds Tryd.pinned (.plain (OpenSpec.upto uptoClosesSpec)) uptoClosesUptoCard

/-- THE SECOND FORM's CARD OF 'ectypelaw16.UptoCongruence'. -/
def uptoCongruenceUptoCard : Claim7 := { stood := { row := uptoCongruenceUptoRow, standIns := [], harness := (true, "083f600fa324912a3f64b4a9d9348dcca761660d41196ed62dae77b3effad808"), looks := false }, kinds := [], alts := [], laidByText := true, laidKinds := [.data], laidTests := true, laidLooks := .later }
def UptoCongruenceUptoCardSaid : Prop := Claim7.holds Tryd.pinned (.plain (OpenSpec.upto uptoCongruenceSpec)) uptoCongruenceUptoCard

/-- THE SECOND FORM's CARD OF 'ectypelaw15.DetAutomata'. -/
def detAutomataUptoCard : Claim7 := { stood := { row := detAutomataUptoRow, standIns := [], harness := (true, "083f600fa324912a3f64b4a9d9348dcca761660d41196ed62dae77b3effad808"), looks := false }, kinds := [], alts := [], laidByText := true, laidKinds := [.data], laidTests := true, laidLooks := .later }
def DetAutomataUptoCardSaid : Prop := Claim7.holds Tryd.pinned (.plain (OpenSpec.upto detAutomataSpec)) detAutomataUptoCard

/-- THE SECOND FORM's CARD OF 'ectypelaw16.UptoSound'. -/
def uptoSoundUptoCard : Claim7 := { stood := { row := uptoSoundUptoRow, standIns := [], harness := (true, "083f600fa324912a3f64b4a9d9348dcca761660d41196ed62dae77b3effad808"), looks := false }, kinds := [], alts := [], laidByText := true, laidKinds := [.data], laidTests := true, laidLooks := .later }
def UptoSoundUptoCardSaid : Prop := Claim7.holds Tryd.pinned (.plain (OpenSpec.upto uptoSoundSpec)) uptoSoundUptoCard

/-- THE SECOND FORM's CARD OF 'ectypelaw16.UptoEqual'. -/
def uptoEqualUptoCard : Claim7 := { stood := { row := uptoEqualUptoRow, standIns := [], harness := (true, "083f600fa324912a3f64b4a9d9348dcca761660d41196ed62dae77b3effad808"), looks := false }, kinds := [], alts := [], laidByText := true, laidKinds := [.data], laidTests := true, laidLooks := .later }
def UptoEqualUptoCardSaid : Prop := Claim7.holds Tryd.pinned (.plain (OpenSpec.upto uptoEqualSpec)) uptoEqualUptoCard

/-- THE SECOND FORM's CARD OF 'ectypelaw15.DetLanguages'. -/
def detLanguagesUptoCard : Claim7 := { stood := { row := detLanguagesUptoRow, standIns := [], harness := (true, "083f600fa324912a3f64b4a9d9348dcca761660d41196ed62dae77b3effad808"), looks := false }, kinds := [], alts := [], laidByText := true, laidKinds := [.data], laidTests := true, laidLooks := .later }
def DetLanguagesUptoCardSaid : Prop := Claim7.holds Tryd.pinned (.plain (OpenSpec.upto detLanguagesSpec)) detLanguagesUptoCard

/-- THE SECOND FORM's CARD OF 'ectypelaw16.UptoRight'. -/
def uptoRightUptoCard : Claim7 := { stood := { row := uptoRightUptoRow, standIns := [], harness := (true, "083f600fa324912a3f64b4a9d9348dcca761660d41196ed62dae77b3effad808"), looks := false }, kinds := [], alts := [], laidByText := true, laidKinds := [.data], laidTests := true, laidLooks := .later }
def UptoRightUptoCardSaid : Prop := Claim7.holds Tryd.pinned (.plain (OpenSpec.upto uptoRightSpec)) uptoRightUptoCard

/-- THE SECOND FORM's CARD OF 'ectypelaw15.DetWords'. -/
def detWordsUptoCard : Claim7 := { stood := { row := detWordsUptoRow, standIns := [], harness := (true, "083f600fa324912a3f64b4a9d9348dcca761660d41196ed62dae77b3effad808"), looks := false }, kinds := [], alts := [], laidByText := true, laidKinds := [.data], laidTests := true, laidLooks := .later }
def DetWordsUptoCardSaid : Prop := Claim7.holds Tryd.pinned (.plain (OpenSpec.upto detWordsSpec)) detWordsUptoCard

/-- THE SECOND FORM's CARD OF 'ectypelaw15.DetReverses'. -/
def detReversesUptoCard : Claim7 := { stood := { row := detReversesUptoRow, standIns := [], harness := (true, "083f600fa324912a3f64b4a9d9348dcca761660d41196ed62dae77b3effad808"), looks := false }, kinds := [], alts := [], laidByText := true, laidKinds := [.data], laidTests := true, laidLooks := .later }
def DetReversesUptoCardSaid : Prop := Claim7.holds Tryd.pinned (.plain (OpenSpec.upto detReversesSpec)) detReversesUptoCard

/-- THE SECOND FORM's CARD OF 'ectypelaw15.DetMinimal'. -/
def detMinimalUptoCard : Claim7 := { stood := { row := detMinimalUptoRow, standIns := [], harness := (true, "083f600fa324912a3f64b4a9d9348dcca761660d41196ed62dae77b3effad808"), looks := false }, kinds := [], alts := [], laidByText := true, laidKinds := [.data], laidTests := true, laidLooks := .later }
def DetMinimalUptoCardSaid : Prop := Claim7.holds Tryd.pinned (.plain (OpenSpec.upto detMinimalSpec)) detMinimalUptoCard
end Rows
end Go.Proofs.YtpgdlniekkeikaaDoor
