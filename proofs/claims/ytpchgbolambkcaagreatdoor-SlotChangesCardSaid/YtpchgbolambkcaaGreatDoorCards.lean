/-
  DERIVED. GIVEN WITH THE SEED: THE CARDS: each row of YtpchgbolambkcaaGreatDoorRows.lean that lists a variable, with what it lists TIED to the program's text (the seventh form; the later family's looks); each row that meets fmt, with fmt's text TOLD by the authors' own Lean function (tested against real Go, not proved from fmt's source: count such statements apart). THE CARD IS WHAT COUNTS. Prove the row's statement (the work); the ties are given (YtpchgbolambkcaaGreatDoorTie.lean); close each card by the builder's one call (the guide's Derived/Test/ToyasCard.lean, 'card_holds'). Laid BY PROGRAM, IN A SANDBOX (cutbox-door.mjs). By AI agents, Wed Nov 11 2026. No macro, syntax, notation, axiom, sorry.
-/
import Derived.Test.YtpchgbolambkcaaGreatDoorRows
import GoSem.ClaimSeven
namespace Go.Proofs.YtpchgbolambkcaaGreatDoor
namespace Rows

/-- THE TIED CARD OF 'chatelainelaw25.SlotChanges'. -/
def slotChangesCard : Claim7 := { stood := { row := slotChangesRow, standIns := [], harness := (true, "94a9fb262623fa51b5bb54ee54b5c6696e78f61b0a6fe5cbd0c855de80cfd2f2"), looks := true }, kinds := [], alts := [], laidByText := true, laidKinds := [.handle], laidTests := true, laidLooks := .later }
def SlotChangesCardSaid : Prop := Claim7.holds Tryz.pinned (.plain (OpenSpec.ofChange slotChangesSpec)) slotChangesCard

/-- THE TIED CARD OF 'chatelainelaw25.SlotSaves'. -/
def slotSavesCard : Claim7 := { stood := { row := slotSavesRow, standIns := [], harness := (true, "94a9fb262623fa51b5bb54ee54b5c6696e78f61b0a6fe5cbd0c855de80cfd2f2"), looks := true }, kinds := [], alts := [], laidByText := true, laidKinds := [.handle], laidTests := true, laidLooks := .later }
def SlotSavesCardSaid : Prop := Claim7.holds Tryz.pinned (.plain (OpenSpec.ofChange slotSavesSpec)) slotSavesCard

/-- THE TIED CARD OF 'chatelainelaw25.SlotTorn'. -/
def slotTornCard : Claim7 := { stood := { row := slotTornRow, standIns := [], harness := (true, "94a9fb262623fa51b5bb54ee54b5c6696e78f61b0a6fe5cbd0c855de80cfd2f2"), looks := true }, kinds := [], alts := [], laidByText := true, laidKinds := [.handle], laidTests := true, laidLooks := .later }
def SlotTornCardSaid : Prop := Claim7.holds Tryz.pinned (.plain (OpenSpec.ofChange slotTornSpec)) slotTornCard

/-- THE TIED CARD OF 'chatelainelaw25.SlotReplays'. -/
def slotReplaysCard : Claim7 := { stood := { row := slotReplaysRow, standIns := [], harness := (true, "94a9fb262623fa51b5bb54ee54b5c6696e78f61b0a6fe5cbd0c855de80cfd2f2"), looks := true }, kinds := [], alts := [], laidByText := true, laidKinds := [.handle], laidTests := true, laidLooks := .later }
def SlotReplaysCardSaid : Prop := Claim7.holds Tryz.pinned (.plain (OpenSpec.ofChange slotReplaysSpec)) slotReplaysCard

/-- THE TIED CARD OF 'chatelainelaw25.SlotWipes'. -/
def slotWipesCard : Claim7 := { stood := { row := slotWipesRow, standIns := [], harness := (true, "94a9fb262623fa51b5bb54ee54b5c6696e78f61b0a6fe5cbd0c855de80cfd2f2"), looks := true }, kinds := [], alts := [], laidByText := true, laidKinds := [.handle], laidTests := true, laidLooks := .later }
def SlotWipesCardSaid : Prop := Claim7.holds Tryz.pinned (.plain (OpenSpec.ofChange slotWipesSpec)) slotWipesCard

/-- THE TIED CARD OF 'chatelainelaw25.SlotRows'. -/
def slotRowsCard : Claim7 := { stood := { row := slotRowsRow, standIns := [], harness := (true, "94a9fb262623fa51b5bb54ee54b5c6696e78f61b0a6fe5cbd0c855de80cfd2f2"), looks := true }, kinds := [], alts := [], laidByText := true, laidKinds := [.handle], laidTests := true, laidLooks := .later }
def SlotRowsCardSaid : Prop := Claim7.holds Tryz.pinned (.plain (OpenSpec.ofChange slotRowsSpec)) slotRowsCard

/-- THE SECOND FORM's CARD OF 'chatelainelaw25.SlotChanges'. -/
def slotChangesUptoCard : Claim7 := { stood := { row := slotChangesUptoRow, standIns := [], harness := (true, "94a9fb262623fa51b5bb54ee54b5c6696e78f61b0a6fe5cbd0c855de80cfd2f2"), looks := true }, kinds := [], alts := [], laidByText := true, laidKinds := [.handle], laidTests := true, laidLooks := .later }
def SlotChangesUptoCardSaid : Prop := Claim7.holds Tryz.pinned (.plain (OpenSpec.upto slotChangesSpec)) slotChangesUptoCard

/-- THE SECOND FORM's CARD OF 'chatelainelaw25.SlotSaves'. -/
def slotSavesUptoCard : Claim7 := { stood := { row := slotSavesUptoRow, standIns := [], harness := (true, "94a9fb262623fa51b5bb54ee54b5c6696e78f61b0a6fe5cbd0c855de80cfd2f2"), looks := true }, kinds := [], alts := [], laidByText := true, laidKinds := [.handle], laidTests := true, laidLooks := .later }
def SlotSavesUptoCardSaid : Prop := Claim7.holds Tryz.pinned (.plain (OpenSpec.upto slotSavesSpec)) slotSavesUptoCard

/-- THE SECOND FORM's CARD OF 'chatelainelaw25.SlotTorn'. -/
def slotTornUptoCard : Claim7 := { stood := { row := slotTornUptoRow, standIns := [], harness := (true, "94a9fb262623fa51b5bb54ee54b5c6696e78f61b0a6fe5cbd0c855de80cfd2f2"), looks := true }, kinds := [], alts := [], laidByText := true, laidKinds := [.handle], laidTests := true, laidLooks := .later }
def SlotTornUptoCardSaid : Prop := Claim7.holds Tryz.pinned (.plain (OpenSpec.upto slotTornSpec)) slotTornUptoCard

/-- THE SECOND FORM's CARD OF 'chatelainelaw25.SlotReplays'. -/
def slotReplaysUptoCard : Claim7 := { stood := { row := slotReplaysUptoRow, standIns := [], harness := (true, "94a9fb262623fa51b5bb54ee54b5c6696e78f61b0a6fe5cbd0c855de80cfd2f2"), looks := true }, kinds := [], alts := [], laidByText := true, laidKinds := [.handle], laidTests := true, laidLooks := .later }
def SlotReplaysUptoCardSaid : Prop := Claim7.holds Tryz.pinned (.plain (OpenSpec.upto slotReplaysSpec)) slotReplaysUptoCard

/-- THE SECOND FORM's CARD OF 'chatelainelaw25.SlotWipes'. -/
def slotWipesUptoCard : Claim7 := { stood := { row := slotWipesUptoRow, standIns := [], harness := (true, "94a9fb262623fa51b5bb54ee54b5c6696e78f61b0a6fe5cbd0c855de80cfd2f2"), looks := true }, kinds := [], alts := [], laidByText := true, laidKinds := [.handle], laidTests := true, laidLooks := .later }
def SlotWipesUptoCardSaid : Prop := Claim7.holds Tryz.pinned (.plain (OpenSpec.upto slotWipesSpec)) slotWipesUptoCard

/-- THE SECOND FORM's CARD OF 'chatelainelaw25.SlotRows'. -/
def slotRowsUptoCard : Claim7 := { stood := { row := slotRowsUptoRow, standIns := [], harness := (true, "94a9fb262623fa51b5bb54ee54b5c6696e78f61b0a6fe5cbd0c855de80cfd2f2"), looks := true }, kinds := [], alts := [], laidByText := true, laidKinds := [.handle], laidTests := true, laidLooks := .later }
def SlotRowsUptoCardSaid : Prop := Claim7.holds Tryz.pinned (.plain (OpenSpec.upto slotRowsSpec)) slotRowsUptoCard
end Rows
end Go.Proofs.YtpchgbolambkcaaGreatDoor
