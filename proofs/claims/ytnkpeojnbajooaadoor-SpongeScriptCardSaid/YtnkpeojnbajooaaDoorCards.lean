/-
  DERIVED. GIVEN WITH THE SEED: THE CARDS: each row of YtnkpeojnbajooaaDoorRows.lean that lists a variable, with what it lists TIED to the program's text (the seventh form; the later family's looks); each row that meets fmt, with fmt's text TOLD by the authors' own Lean function (tested against real Go, not proved from fmt's source: count such statements apart). THE CARD IS WHAT COUNTS. Prove the row's statement (the work); the ties are given (YtnkpeojnbajooaaDoorTie.lean); close each card by the builder's one call (the guide's Derived/Test/ToyasCard.lean, 'card_holds'). Laid BY PROGRAM, IN A SANDBOX (cutbox-door.mjs). By AI agents, Wed Nov 11 2026. No macro, syntax, notation, axiom, sorry.
-/
import Derived.Test.YtnkpeojnbajooaaDoorRows
import GoSem.ClaimSeven
namespace Go.Proofs.YtnkpeojnbajooaaDoor
namespace Rows

/-- THE TIED CARD OF 'chatelainelaw2.SpongeScript'. -/
def spongeScriptCard : Claim7 := { stood := { row := spongeScriptRow, standIns := [], harness := (true, "29132160cbbb8186923e864d6afabe87fec37ca27032af2427c6e436206994d5"), looks := true }, kinds := [], alts := [], laidByText := true, laidKinds := [.handle], laidTests := true, laidLooks := .later }
def SpongeScriptCardSaid : Prop := Claim7.holds Tryd.pinned (.plain (OpenSpec.ofChange spongeScriptSpec)) spongeScriptCard

/-- THE TIED CARD OF 'chatelainelaw2.SpongeNone'. -/
def spongeNoneCard : Claim7 := { stood := { row := spongeNoneRow, standIns := [], harness := (true, "29132160cbbb8186923e864d6afabe87fec37ca27032af2427c6e436206994d5"), looks := true }, kinds := [], alts := [], laidByText := true, laidKinds := [.handle], laidTests := true, laidLooks := .later }
def SpongeNoneCardSaid : Prop := Claim7.holds Tryd.pinned (.plain (OpenSpec.ofChange spongeNoneSpec)) spongeNoneCard

/-- THE TIED CARD OF 'chatelainelaw2.SpongeSame'. -/
def spongeSameCard : Claim7 := { stood := { row := spongeSameRow, standIns := [], harness := (true, "29132160cbbb8186923e864d6afabe87fec37ca27032af2427c6e436206994d5"), looks := true }, kinds := [], alts := [], laidByText := true, laidKinds := [.handle], laidTests := true, laidLooks := .later }
def SpongeSameCardSaid : Prop := Claim7.holds Tryd.pinned (.plain (OpenSpec.ofChange spongeSameSpec)) spongeSameCard

/-- THE TIED CARD OF 'chatelainelaw2.SpongeTells'. -/
def spongeTellsCard : Claim7 := { stood := { row := spongeTellsRow, standIns := [], harness := (true, "29132160cbbb8186923e864d6afabe87fec37ca27032af2427c6e436206994d5"), looks := true }, kinds := [], alts := [], laidByText := true, laidKinds := [.handle], laidTests := true, laidLooks := .later }
def SpongeTellsCardSaid : Prop := Claim7.holds Tryd.pinned (.plain (OpenSpec.ofChange spongeTellsSpec)) spongeTellsCard

/-- THE TIED CARD OF 'chatelainelaw2.SpongeBegins'. -/
def spongeBeginsCard : Claim7 := { stood := { row := spongeBeginsRow, standIns := [], harness := (true, "29132160cbbb8186923e864d6afabe87fec37ca27032af2427c6e436206994d5"), looks := true }, kinds := [], alts := [], laidByText := true, laidKinds := [.handle], laidTests := true, laidLooks := .later }
def SpongeBeginsCardSaid : Prop := Claim7.holds Tryd.pinned (.plain (OpenSpec.ofChange spongeBeginsSpec)) spongeBeginsCard

/-- THE SECOND FORM's CARD OF 'chatelainelaw2.SpongeScript'. -/
def spongeScriptUptoCard : Claim7 := { stood := { row := spongeScriptUptoRow, standIns := [], harness := (true, "29132160cbbb8186923e864d6afabe87fec37ca27032af2427c6e436206994d5"), looks := true }, kinds := [], alts := [], laidByText := true, laidKinds := [.handle], laidTests := true, laidLooks := .later }
def SpongeScriptUptoCardSaid : Prop := Claim7.holds Tryd.pinned (.plain (OpenSpec.upto spongeScriptSpec)) spongeScriptUptoCard

/-- THE SECOND FORM's CARD OF 'chatelainelaw2.SpongeNone'. -/
def spongeNoneUptoCard : Claim7 := { stood := { row := spongeNoneUptoRow, standIns := [], harness := (true, "29132160cbbb8186923e864d6afabe87fec37ca27032af2427c6e436206994d5"), looks := true }, kinds := [], alts := [], laidByText := true, laidKinds := [.handle], laidTests := true, laidLooks := .later }
def SpongeNoneUptoCardSaid : Prop := Claim7.holds Tryd.pinned (.plain (OpenSpec.upto spongeNoneSpec)) spongeNoneUptoCard

/-- THE SECOND FORM's CARD OF 'chatelainelaw2.SpongeSame'. -/
def spongeSameUptoCard : Claim7 := { stood := { row := spongeSameUptoRow, standIns := [], harness := (true, "29132160cbbb8186923e864d6afabe87fec37ca27032af2427c6e436206994d5"), looks := true }, kinds := [], alts := [], laidByText := true, laidKinds := [.handle], laidTests := true, laidLooks := .later }
def SpongeSameUptoCardSaid : Prop := Claim7.holds Tryd.pinned (.plain (OpenSpec.upto spongeSameSpec)) spongeSameUptoCard

/-- THE SECOND FORM's CARD OF 'chatelainelaw2.SpongeTells'. -/
def spongeTellsUptoCard : Claim7 := { stood := { row := spongeTellsUptoRow, standIns := [], harness := (true, "29132160cbbb8186923e864d6afabe87fec37ca27032af2427c6e436206994d5"), looks := true }, kinds := [], alts := [], laidByText := true, laidKinds := [.handle], laidTests := true, laidLooks := .later }
def SpongeTellsUptoCardSaid : Prop := Claim7.holds Tryd.pinned (.plain (OpenSpec.upto spongeTellsSpec)) spongeTellsUptoCard

/-- THE SECOND FORM's CARD OF 'chatelainelaw2.SpongeBegins'. -/
def spongeBeginsUptoCard : Claim7 := { stood := { row := spongeBeginsUptoRow, standIns := [], harness := (true, "29132160cbbb8186923e864d6afabe87fec37ca27032af2427c6e436206994d5"), looks := true }, kinds := [], alts := [], laidByText := true, laidKinds := [.handle], laidTests := true, laidLooks := .later }
def SpongeBeginsUptoCardSaid : Prop := Claim7.holds Tryd.pinned (.plain (OpenSpec.upto spongeBeginsSpec)) spongeBeginsUptoCard
end Rows
end Go.Proofs.YtnkpeojnbajooaaDoor
