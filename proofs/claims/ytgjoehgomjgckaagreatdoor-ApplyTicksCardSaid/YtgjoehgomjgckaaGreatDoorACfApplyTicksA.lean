/- Texts of this claim, packed and shortened. -/
import Derived.Test.YtgjoehgomjgckaaGreatDoorQ2
namespace Go.Proofs.YtgjoehgomjgckaaGreatDoor.yS
open Go
theorem c3:(Rows.applyTicksRow.inPlace == Tryz.pinned.checked.prog.inPlace 4)=true:=by kernel_rfl
theorem c4:(Rows.applyTicksRow.unfollowed == Tryz.pinned.checked.prog.unfollowed 4)=true:=by kernel_rfl
end Go.Proofs.YtgjoehgomjgckaaGreatDoor.yS
