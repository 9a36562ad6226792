/-
  DERIVED. GIVEN WITH THE SEED: THE CARDS: each row of YtfaalfjjkddgiaaGreatDoorRows.lean that lists a variable, with what it lists TIED to the program's text (the seventh form; the later family's looks); each row that meets fmt, with fmt's text TOLD by the authors' own Lean function (tested against real Go, not proved from fmt's source: count such statements apart). THE CARD IS WHAT COUNTS. Prove the row's statement (the work); the ties are given (YtfaalfjjkddgiaaGreatDoorTie.lean); close each card by the builder's one call (the guide's Derived/Test/ToyasCard.lean, 'card_holds'). Laid BY PROGRAM, IN A SANDBOX (cutbox-door.mjs). By AI agents, Wed Nov 11 2026. No macro, syntax, notation, axiom, sorry.
-/
import Derived.Test.YtfaalfjjkddgiaaGreatDoorRows
import GoSem.ClaimSeven
namespace Go.Proofs.YtfaalfjjkddgiaaGreatDoor
namespace Rows

/-- THE TIED CARD OF 'chatelainelaw12.SiftTells'. -/
def siftTellsCard : Claim7 := { stood := { row := siftTellsRow, standIns := [], harness := (true, "770610c100dced5514fa4af6a8a629b6303506327a06cf217e3c60d56a97d72a"), looks := true }, kinds := [], alts := [], laidByText := true, laidKinds := [.handle], laidTests := true, laidLooks := .later }
def SiftTellsCardSaid : Prop := Claim7.holds Tryz.pinned (.plain (OpenSpec.ofChange siftTellsSpec)) siftTellsCard

/-- THE SECOND FORM's CARD OF 'chatelainelaw12.SiftTells'. -/
def siftTellsUptoCard : Claim7 := { stood := { row := siftTellsUptoRow, standIns := [], harness := (true, "770610c100dced5514fa4af6a8a629b6303506327a06cf217e3c60d56a97d72a"), looks := true }, kinds := [], alts := [], laidByText := true, laidKinds := [.handle], laidTests := true, laidLooks := .later }
def SiftTellsUptoCardSaid : Prop := Claim7.holds Tryz.pinned (.plain (OpenSpec.upto siftTellsSpec)) siftTellsUptoCard
end Rows
end Go.Proofs.YtfaalfjjkddgiaaGreatDoor
