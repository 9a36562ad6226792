/- Texts of this claim, packed and shortened. -/
import Derived.Test.YtgjoehgomjgckaaGreatDoorQ2
namespace Go.Proofs.YtgjoehgomjgckaaGreatDoor.zD
open Go
theorem c3:(Rows.applyTellsRow.inPlace == Tryz.pinned.checked.prog.inPlace 6)=true:=by kernel_rfl
theorem c4:(Rows.applyTellsRow.unfollowed == Tryz.pinned.checked.prog.unfollowed 6)=true:=by kernel_rfl
end Go.Proofs.YtgjoehgomjgckaaGreatDoor.zD
