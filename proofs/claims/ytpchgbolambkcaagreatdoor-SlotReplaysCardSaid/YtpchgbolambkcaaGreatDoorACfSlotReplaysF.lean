/- Texts of this claim, packed and shortened. -/
import Derived.Test.YtpchgbolambkcaaGreatDoorQ2
namespace Go.Proofs.YtpchgbolambkcaaGreatDoor.nG
open Go Go.Ev Go.ChangeShapes Go.WideShapes Go.ChangeAt Go.RowKit
theorem goes:false=Rows.slotReplaysRow.goesBy Tryz.pinned.checked.prog:=by kernel_rfl
end Go.Proofs.YtpchgbolambkcaaGreatDoor.nG
