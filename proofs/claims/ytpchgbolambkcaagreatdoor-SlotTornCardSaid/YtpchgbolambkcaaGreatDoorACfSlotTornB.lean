/- Texts of this claim, packed and shortened. -/
import Derived.Test.YtpchgbolambkcaaGreatDoorQ2
namespace Go.Proofs.YtpchgbolambkcaaGreatDoor.qX
open Go Go.Ev Go.ChangeShapes Go.WideShapes Go.ChangeAt Go.RowKit
theorem c5:(Rows.slotTornRow.recurses == Tryz.pinned.checked.prog.recurses 5)=true:=by kernel_rfl
theorem c6:(Rows.slotTornRow.named == Tryz.pinned.checked.prog.varsNamed 5)=true:=by kernel_rfl
end Go.Proofs.YtpchgbolambkcaaGreatDoor.qX
