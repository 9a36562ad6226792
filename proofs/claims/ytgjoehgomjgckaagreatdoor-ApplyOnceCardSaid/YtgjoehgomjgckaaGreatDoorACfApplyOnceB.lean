/- Texts of this claim, packed and shortened. -/
import Derived.Test.YtgjoehgomjgckaaGreatDoorQ2
namespace Go.Proofs.YtgjoehgomjgckaaGreatDoor.yL
open Go
theorem c5:(Rows.applyOnceRow.recurses == Tryz.pinned.checked.prog.recurses 3)=true:=by kernel_rfl
theorem c6:(Rows.applyOnceRow.named == Tryz.pinned.checked.prog.varsNamed 3)=true:=by kernel_rfl
end Go.Proofs.YtgjoehgomjgckaaGreatDoor.yL
