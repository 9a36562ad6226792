/- Texts of this claim, packed and shortened. -/
import Derived.Test.YtpchgbolambkcaaGreatDoorQ2
namespace Go.Proofs.YtpchgbolambkcaaGreatDoor.nG
open Go Go.Ev Go.ChangeShapes Go.WideShapes Go.ChangeAt Go.RowKit
theorem c5:(Rows.slotReplaysRow.recurses == Tryz.pinned.checked.prog.recurses 6)=true:=by kernel_rfl
theorem c6:(Rows.slotReplaysRow.named == Tryz.pinned.checked.prog.varsNamed 6)=true:=by kernel_rfl
end Go.Proofs.YtpchgbolambkcaaGreatDoor.nG
