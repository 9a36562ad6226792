/- Texts of this claim, packed and shortened. -/
import Derived.Test.YtgjoehgomjgckaaGreatDoorQ2
namespace Go.Proofs.YtgjoehgomjgckaaGreatDoor.zy
open Go
theorem c3:(Rows.applyScriptRow.inPlace == Tryz.pinned.checked.prog.inPlace 7)=true:=by kernel_rfl
theorem c4:(Rows.applyScriptRow.unfollowed == Tryz.pinned.checked.prog.unfollowed 7)=true:=by kernel_rfl
end Go.Proofs.YtgjoehgomjgckaaGreatDoor.zy
