/- Texts of this claim, packed and shortened. -/
import Derived.Test.YtgjoehgomjgckaaGreatDoorQ2
namespace Go.Proofs.YtgjoehgomjgckaaGreatDoor.zy
open Go
theorem c5:(Rows.applyScriptRow.recurses == Tryz.pinned.checked.prog.recurses 7)=true:=by kernel_rfl
theorem c6:(Rows.applyScriptRow.named == Tryz.pinned.checked.prog.varsNamed 7)=true:=by kernel_rfl
end Go.Proofs.YtgjoehgomjgckaaGreatDoor.zy
