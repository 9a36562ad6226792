/- Texts of this claim, packed and shortened. -/
import Derived.Test.YtpchgbolambkcaaGreatDoorQ2
namespace Go.Proofs.YtpchgbolambkcaaGreatDoor.nG
open Go Go.Ev Go.ChangeShapes Go.WideShapes Go.ChangeAt Go.RowKit
theorem main:Tryz.pinned.checked.prog.mainIs=some (Rows.slotReplaysCard.stood.harness.1,Rows.slotReplaysCard.stood.harness.2.toList):=by kernel_rfl
end Go.Proofs.YtpchgbolambkcaaGreatDoor.nG
