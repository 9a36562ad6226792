/-
  DERIVED. GIVEN WITH THE SEED: THE CARDS: each row of YtfaalfjjkddgiaaDoorRows.lean that lists a variable, with what it lists TIED to the program's text (the seventh form; the later family's looks); each row that meets fmt, with fmt's text TOLD by the authors' own Lean function (tested against real Go, not proved from fmt's source: count such statements apart). THE CARD IS WHAT COUNTS. Prove the row's statement (the work); the ties are given (YtfaalfjjkddgiaaDoorTie.lean); close each card by the builder's one call (the guide's Derived/Test/ToyasCard.lean, 'card_holds'). Laid BY PROGRAM, IN A SANDBOX (cutbox-door.mjs). By AI agents, Wed Nov 11 2026. No macro, syntax, notation, axiom, sorry.
-/
import Derived.Test.YtfaalfjjkddgiaaDoorRows
import GoSem.ClaimSeven
namespace Go.Proofs.YtfaalfjjkddgiaaDoor
namespace Rows

/-- THE TIED CARD OF 'chatelainelaw12.SiftSeeds'. -/
def siftSeedsCard : Claim7 := { stood := { row := siftSeedsRow, standIns := [], harness := (true, "2a548dacc6c9702fb85de8418329b262ab55862ee53c336fcf33dc6b376dd90c"), looks := true }, kinds := [], alts := [], laidByText := true, laidKinds := [.handle], laidTests := true, laidLooks := .later }
def SiftSeedsCardSaid : Prop := Claim7.holds Tryd.pinned (.plain (OpenSpec.ofChange siftSeedsSpec)) siftSeedsCard

/-- THE TIED CARD OF 'chatelainelaw12.SiftMasks'. -/
def siftMasksCard : Claim7 := { stood := { row := siftMasksRow, standIns := [], harness := (true, "2a548dacc6c9702fb85de8418329b262ab55862ee53c336fcf33dc6b376dd90c"), looks := true }, kinds := [], alts := [], laidByText := true, laidKinds := [.handle], laidTests := true, laidLooks := .later }
def SiftMasksCardSaid : Prop := Claim7.holds Tryd.pinned (.plain (OpenSpec.ofChange siftMasksSpec)) siftMasksCard

/-- THE TIED CARD OF 'chatelainelaw12.SiftBounds'. -/
def siftBoundsCard : Claim7 := { stood := { row := siftBoundsRow, standIns := [], harness := (true, "2a548dacc6c9702fb85de8418329b262ab55862ee53c336fcf33dc6b376dd90c"), looks := true }, kinds := [], alts := [], laidByText := true, laidKinds := [.handle], laidTests := true, laidLooks := .later }
def SiftBoundsCardSaid : Prop := Claim7.holds Tryd.pinned (.plain (OpenSpec.ofChange siftBoundsSpec)) siftBoundsCard

/-- THE SECOND FORM's CARD OF 'chatelainelaw12.SiftSeeds'. -/
def siftSeedsUptoCard : Claim7 := { stood := { row := siftSeedsUptoRow, standIns := [], harness := (true, "2a548dacc6c9702fb85de8418329b262ab55862ee53c336fcf33dc6b376dd90c"), looks := true }, kinds := [], alts := [], laidByText := true, laidKinds := [.handle], laidTests := true, laidLooks := .later }
def SiftSeedsUptoCardSaid : Prop := Claim7.holds Tryd.pinned (.plain (OpenSpec.upto siftSeedsSpec)) siftSeedsUptoCard

/-- THE SECOND FORM's CARD OF 'chatelainelaw12.SiftMasks'. -/
def siftMasksUptoCard : Claim7 := { stood := { row := siftMasksUptoRow, standIns := [], harness := (true, "2a548dacc6c9702fb85de8418329b262ab55862ee53c336fcf33dc6b376dd90c"), looks := true }, kinds := [], alts := [], laidByText := true, laidKinds := [.handle], laidTests := true, laidLooks := .later }
def SiftMasksUptoCardSaid : Prop := Claim7.holds Tryd.pinned (.plain (OpenSpec.upto siftMasksSpec)) siftMasksUptoCard

/-- THE SECOND FORM's CARD OF 'chatelainelaw12.SiftBounds'. -/
def siftBoundsUptoCard : Claim7 := { stood := { row := siftBoundsUptoRow, standIns := [], harness := (true, "2a548dacc6c9702fb85de8418329b262ab55862ee53c336fcf33dc6b376dd90c"), looks := true }, kinds := [], alts := [], laidByText := true, laidKinds := [.handle], laidTests := true, laidLooks := .later }
def SiftBoundsUptoCardSaid : Prop := Claim7.holds Tryd.pinned (.plain (OpenSpec.upto siftBoundsSpec)) siftBoundsUptoCard
end Rows
end Go.Proofs.YtfaalfjjkddgiaaDoor
