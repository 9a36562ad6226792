/- Texts of this claim, packed and shortened. -/
import Derived.Test.YtpchgbolambkcaaGreatDoorQ2
import Derived.Test.YtpchgbolambkcaaGreatDoorACfSlotReplaysD
import Derived.Test.YtpchgbolambkcaaGreatDoorACfSlotReplaysF
import Derived.Test.YtpchgbolambkcaaGreatDoorACfSlotReplaysG
namespace Go.Proofs.YtpchgbolambkcaaGreatDoor.nG
open Go Go.Ev Go.ChangeShapes Go.WideShapes Go.ChangeAt Go.RowKit
theorem tK (said:Rows.SlotReplaysSaid):Rows.SlotReplaysCardSaid:=
 Claim7.holds_tied_plain_at .later [] _ _ _ _ said (fun _ h=>by cases h) (by kernel_rfl) (fun _ h=>by cases h) slotReplays_row_tie rfl ⟨rfl,rfl⟩ main rfl plain goes
end Go.Proofs.YtpchgbolambkcaaGreatDoor.nG
