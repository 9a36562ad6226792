/-
  DERIVED. GIVEN WITH THE SEED: THE CARDS: each row of YtgjoehgomjgckaaGreatDoorRows.lean that lists a variable, with what it lists TIED to the program's text (the seventh form; the later family's looks); each row that meets fmt, with fmt's text TOLD by the authors' own Lean function (tested against real Go, not proved from fmt's source: count such statements apart). THE CARD IS WHAT COUNTS. Prove the row's statement (the work); the ties are given (YtgjoehgomjgckaaGreatDoorTie.lean); close each card by the builder's one call (the guide's Derived/Test/ToyasCard.lean, 'card_holds'). Laid BY PROGRAM, IN A SANDBOX (cutbox-door.mjs). By AI agents, Wed Nov 11 2026. No macro, syntax, notation, axiom, sorry.
-/
import Derived.Test.YtgjoehgomjgckaaGreatDoorRows
import GoSem.ClaimSeven
namespace Go.Proofs.YtgjoehgomjgckaaGreatDoor
namespace Rows

/-- THE TIED CARD OF 'chatelainelaw21.ApplyOnce'. -/
def applyOnceCard : Claim7 := { stood := { row := applyOnceRow, standIns := [], harness := (true, "2ec3e5637905224d49739969a4e0814062cb49f91b61b9814591a80ed2e1ab33"), looks := true }, kinds := [], alts := [], laidByText := true, laidKinds := [.handle], laidTests := true, laidLooks := .later }
def ApplyOnceCardSaid : Prop := Claim7.holds Tryz.pinned (.plain (OpenSpec.ofChange applyOnceSpec)) applyOnceCard

/-- THE TIED CARD OF 'chatelainelaw21.ApplyTicks'. -/
def applyTicksCard : Claim7 := { stood := { row := applyTicksRow, standIns := [], harness := (true, "2ec3e5637905224d49739969a4e0814062cb49f91b61b9814591a80ed2e1ab33"), looks := true }, kinds := [], alts := [], laidByText := true, laidKinds := [.handle], laidTests := true, laidLooks := .later }
def ApplyTicksCardSaid : Prop := Claim7.holds Tryz.pinned (.plain (OpenSpec.ofChange applyTicksSpec)) applyTicksCard

/-- THE TIED CARD OF 'chatelainelaw21.ApplyApart'. -/
def applyApartCard : Claim7 := { stood := { row := applyApartRow, standIns := [], harness := (true, "2ec3e5637905224d49739969a4e0814062cb49f91b61b9814591a80ed2e1ab33"), looks := true }, kinds := [], alts := [], laidByText := true, laidKinds := [.handle], laidTests := true, laidLooks := .later }
def ApplyApartCardSaid : Prop := Claim7.holds Tryz.pinned (.plain (OpenSpec.ofChange applyApartSpec)) applyApartCard

/-- THE TIED CARD OF 'chatelainelaw21.ApplyTells'. -/
def applyTellsCard : Claim7 := { stood := { row := applyTellsRow, standIns := [], harness := (true, "2ec3e5637905224d49739969a4e0814062cb49f91b61b9814591a80ed2e1ab33"), looks := true }, kinds := [], alts := [], laidByText := true, laidKinds := [.handle], laidTests := true, laidLooks := .later }
def ApplyTellsCardSaid : Prop := Claim7.holds Tryz.pinned (.plain (OpenSpec.ofChange applyTellsSpec)) applyTellsCard

/-- THE TIED CARD OF 'chatelainelaw21.ApplyScript'. -/
def applyScriptCard : Claim7 := { stood := { row := applyScriptRow, standIns := [], harness := (true, "2ec3e5637905224d49739969a4e0814062cb49f91b61b9814591a80ed2e1ab33"), looks := true }, kinds := [], alts := [], laidByText := true, laidKinds := [.handle], laidTests := true, laidLooks := .later }
def ApplyScriptCardSaid : Prop := Claim7.holds Tryz.pinned (.plain (OpenSpec.ofChange applyScriptSpec)) applyScriptCard

/-- THE SECOND FORM's CARD OF 'chatelainelaw21.ApplyOnce'. -/
def applyOnceUptoCard : Claim7 := { stood := { row := applyOnceUptoRow, standIns := [], harness := (true, "2ec3e5637905224d49739969a4e0814062cb49f91b61b9814591a80ed2e1ab33"), looks := true }, kinds := [], alts := [], laidByText := true, laidKinds := [.handle], laidTests := true, laidLooks := .later }
def ApplyOnceUptoCardSaid : Prop := Claim7.holds Tryz.pinned (.plain (OpenSpec.upto applyOnceSpec)) applyOnceUptoCard

/-- THE SECOND FORM's CARD OF 'chatelainelaw21.ApplyTicks'. -/
def applyTicksUptoCard : Claim7 := { stood := { row := applyTicksUptoRow, standIns := [], harness := (true, "2ec3e5637905224d49739969a4e0814062cb49f91b61b9814591a80ed2e1ab33"), looks := true }, kinds := [], alts := [], laidByText := true, laidKinds := [.handle], laidTests := true, laidLooks := .later }
def ApplyTicksUptoCardSaid : Prop := Claim7.holds Tryz.pinned (.plain (OpenSpec.upto applyTicksSpec)) applyTicksUptoCard

/-- THE SECOND FORM's CARD OF 'chatelainelaw21.ApplyApart'. -/
def applyApartUptoCard : Claim7 := { stood := { row := applyApartUptoRow, standIns := [], harness := (true, "2ec3e5637905224d49739969a4e0814062cb49f91b61b9814591a80ed2e1ab33"), looks := true }, kinds := [], alts := [], laidByText := true, laidKinds := [.handle], laidTests := true, laidLooks := .later }
def ApplyApartUptoCardSaid : Prop := Claim7.holds Tryz.pinned (.plain (OpenSpec.upto applyApartSpec)) applyApartUptoCard

/-- THE SECOND FORM's CARD OF 'chatelainelaw21.ApplyTells'. -/
def applyTellsUptoCard : Claim7 := { stood := { row := applyTellsUptoRow, standIns := [], harness := (true, "2ec3e5637905224d49739969a4e0814062cb49f91b61b9814591a80ed2e1ab33"), looks := true }, kinds := [], alts := [], laidByText := true, laidKinds := [.handle], laidTests := true, laidLooks := .later }
def ApplyTellsUptoCardSaid : Prop := Claim7.holds Tryz.pinned (.plain (OpenSpec.upto applyTellsSpec)) applyTellsUptoCard

/-- THE SECOND FORM's CARD OF 'chatelainelaw21.ApplyScript'. -/
def applyScriptUptoCard : Claim7 := { stood := { row := applyScriptUptoRow, standIns := [], harness := (true, "2ec3e5637905224d49739969a4e0814062cb49f91b61b9814591a80ed2e1ab33"), looks := true }, kinds := [], alts := [], laidByText := true, laidKinds := [.handle], laidTests := true, laidLooks := .later }
def ApplyScriptUptoCardSaid : Prop := Claim7.holds Tryz.pinned (.plain (OpenSpec.upto applyScriptSpec)) applyScriptUptoCard
end Rows
end Go.Proofs.YtgjoehgomjgckaaGreatDoor
