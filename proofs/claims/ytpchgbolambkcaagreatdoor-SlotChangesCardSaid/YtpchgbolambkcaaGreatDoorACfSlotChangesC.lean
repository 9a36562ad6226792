/- Texts of this claim, packed and shortened. -/
import Derived.Test.YtpchgbolambkcaaGreatDoorQ2
import Derived.Test.YtpchgbolambkcaaGreatDoorACfSlotChangesA
import Derived.Test.YtpchgbolambkcaaGreatDoorACfSlotChangesB
namespace Go.Proofs.YtpchgbolambkcaaGreatDoor.qS
open Go Go.Ev Go.ChangeShapes Go.WideShapes Go.ChangeAt Go.RowKit
theorem c1:laidOutB Tryz.pinned.checked.prog=true:=laidOut
theorem c2:mapsRowed Tryz.pinned.checked.prog=true:=by kernel_rfl
theorem closed:joinedFacts Tryz.pinned.checked.prog 3 Tryz.f3 (OpenSpec.ofChange Rows.slotChangesSpec).bare Rows.slotChangesRow=true:=by
 unfold joinedFacts
 rw [c1,c2,c3,c4,c5,c6]
 kernel_rfl
end Go.Proofs.YtpchgbolambkcaaGreatDoor.qS
