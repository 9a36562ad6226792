/- Texts of this claim, packed and shortened. -/
import Derived.Test.YtpchgbolambkcaaGreatDoorQ2
import Derived.Test.YtpchgbolambkcaaGreatDoorACfSlotRowsA
import Derived.Test.YtpchgbolambkcaaGreatDoorACfSlotRowsB
namespace Go.Proofs.YtpchgbolambkcaaGreatDoor.qY
open Go Go.Ev Go.ChangeShapes Go.WideShapes Go.ChangeAt Go.RowKit
theorem c1:laidOutB Tryz.pinned.checked.prog=true:=laidOut
theorem c2:mapsRowed Tryz.pinned.checked.prog=true:=by kernel_rfl
theorem closed:joinedFacts Tryz.pinned.checked.prog 8 Tryz.f8 (OpenSpec.ofChange Rows.slotRowsSpec).bare Rows.slotRowsRow=true:=by
 unfold joinedFacts
 rw [c1,c2,c3,c4,c5,c6]
 kernel_rfl
end Go.Proofs.YtpchgbolambkcaaGreatDoor.qY
