/- ectypelaw16.awake, computed. -/
import Derived.Test.YtpgdlniekkeikaaDoorEqualB
namespace Go.Ab.Tab
open Go Go.Ab
set_option maxRecDepth 100000
def noOrc : FuncId → List AV → Option AV := fun _ _ => none
theorem noOrc_ok (P : Program) (G : Nat → Option (List AV)) : OOk P G noOrc := by intro f args r h; simp [noOrc] at h
theorem mixed : Pg.follows .mixedOrders = true := by kernel_rfl
theorem aw16 : (evF T noOrc (fun own k s => evR T noOrc 100000 own k s []) ⟨[], [], 0, fun _ _ => (0, .dead)⟩ 14 []).map (fun e => (e.val, e.ups.isEmpty, e.rd.isEmpty)) = some (.bool true, true, true) := by kernel_rfl
theorem loc14 : Loc Pg Gl 1 14 [] [] (.bool true) [] := ev_loc (L := Lx) mixed tok (noOrc_ok _ _) aw16
end Go.Ab.Tab
