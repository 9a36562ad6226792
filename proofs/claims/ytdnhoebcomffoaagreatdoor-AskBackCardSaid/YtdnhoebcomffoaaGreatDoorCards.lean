/-
  DERIVED. GIVEN WITH THE SEED: THE CARDS: each row of YtdnhoebcomffoaaGreatDoorRows.lean that lists a variable, with what it lists TIED to the program's text (the seventh form; the later family's looks); each row that meets fmt, with fmt's text TOLD by the authors' own Lean function (tested against real Go, not proved from fmt's source: count such statements apart). THE CARD IS WHAT COUNTS. Prove the row's statement (the work); the ties are given (YtdnhoebcomffoaaGreatDoorTie.lean); close each card by the builder's one call (the guide's Derived/Test/ToyasCard.lean, 'card_holds'). Laid BY PROGRAM, IN A SANDBOX (cutbox-door.mjs). By AI agents, Wed Nov 11 2026. No macro, syntax, notation, axiom, sorry.
-/
import Derived.Test.YtdnhoebcomffoaaGreatDoorRows
import GoSem.ClaimSeven
namespace Go.Proofs.YtdnhoebcomffoaaGreatDoor
namespace Rows

/-- THE TIED CARD OF 'chatelainelaw13.SignSigns'. -/
def signSignsCard : Claim7 := { stood := { row := signSignsRow, standIns := [], harness := (true, "e426de29c82ff045b52eb692eaea2997a468c6b5e2287ece17c8888dffc13d8e"), looks := true }, kinds := [], alts := [], laidByText := true, laidKinds := [.handle], laidTests := true, laidLooks := .later }
def SignSignsCardSaid : Prop := Claim7.holds Tryz.pinned (.plain (OpenSpec.ofChange signSignsSpec)) signSignsCard

/-- THE TIED CARD OF 'chatelainelaw13.SignSets'. -/
def signSetsCard : Claim7 := { stood := { row := signSetsRow, standIns := [], harness := (true, "e426de29c82ff045b52eb692eaea2997a468c6b5e2287ece17c8888dffc13d8e"), looks := true }, kinds := [], alts := [], laidByText := true, laidKinds := [.handle], laidTests := true, laidLooks := .later }
def SignSetsCardSaid : Prop := Claim7.holds Tryz.pinned (.plain (OpenSpec.ofChange signSetsSpec)) signSetsCard

/-- THE TIED CARD OF 'chatelainelaw13.SignWrong'. -/
def signWrongCard : Claim7 := { stood := { row := signWrongRow, standIns := [], harness := (true, "e426de29c82ff045b52eb692eaea2997a468c6b5e2287ece17c8888dffc13d8e"), looks := true }, kinds := [], alts := [], laidByText := true, laidKinds := [.handle], laidTests := true, laidLooks := .later }
def SignWrongCardSaid : Prop := Claim7.holds Tryz.pinned (.plain (OpenSpec.ofChange signWrongSpec)) signWrongCard

/-- THE TIED CARD OF 'chatelainelaw13.SignTwice'. -/
def signTwiceCard : Claim7 := { stood := { row := signTwiceRow, standIns := [], harness := (true, "e426de29c82ff045b52eb692eaea2997a468c6b5e2287ece17c8888dffc13d8e"), looks := true }, kinds := [], alts := [], laidByText := true, laidKinds := [.handle], laidTests := true, laidLooks := .later }
def SignTwiceCardSaid : Prop := Claim7.holds Tryz.pinned (.plain (OpenSpec.ofChange signTwiceSpec)) signTwiceCard

/-- THE TIED CARD OF 'chatelainelaw15.AskBack'. -/
def askBackCard : Claim7 := { stood := { row := askBackRow, standIns := [], harness := (true, "e426de29c82ff045b52eb692eaea2997a468c6b5e2287ece17c8888dffc13d8e"), looks := true }, kinds := [], alts := [], laidByText := true, laidKinds := [.handle], laidTests := true, laidLooks := .later }
def AskBackCardSaid : Prop := Claim7.holds Tryz.pinned (.plain (OpenSpec.ofChange askBackSpec)) askBackCard

/-- THE SECOND FORM's CARD OF 'chatelainelaw13.SignSigns'. -/
def signSignsUptoCard : Claim7 := { stood := { row := signSignsUptoRow, standIns := [], harness := (true, "e426de29c82ff045b52eb692eaea2997a468c6b5e2287ece17c8888dffc13d8e"), looks := true }, kinds := [], alts := [], laidByText := true, laidKinds := [.handle], laidTests := true, laidLooks := .later }
def SignSignsUptoCardSaid : Prop := Claim7.holds Tryz.pinned (.plain (OpenSpec.upto signSignsSpec)) signSignsUptoCard

/-- THE SECOND FORM's CARD OF 'chatelainelaw13.SignSets'. -/
def signSetsUptoCard : Claim7 := { stood := { row := signSetsUptoRow, standIns := [], harness := (true, "e426de29c82ff045b52eb692eaea2997a468c6b5e2287ece17c8888dffc13d8e"), looks := true }, kinds := [], alts := [], laidByText := true, laidKinds := [.handle], laidTests := true, laidLooks := .later }
def SignSetsUptoCardSaid : Prop := Claim7.holds Tryz.pinned (.plain (OpenSpec.upto signSetsSpec)) signSetsUptoCard

/-- THE SECOND FORM's CARD OF 'chatelainelaw13.SignWrong'. -/
def signWrongUptoCard : Claim7 := { stood := { row := signWrongUptoRow, standIns := [], harness := (true, "e426de29c82ff045b52eb692eaea2997a468c6b5e2287ece17c8888dffc13d8e"), looks := true }, kinds := [], alts := [], laidByText := true, laidKinds := [.handle], laidTests := true, laidLooks := .later }
def SignWrongUptoCardSaid : Prop := Claim7.holds Tryz.pinned (.plain (OpenSpec.upto signWrongSpec)) signWrongUptoCard

/-- THE SECOND FORM's CARD OF 'chatelainelaw13.SignTwice'. -/
def signTwiceUptoCard : Claim7 := { stood := { row := signTwiceUptoRow, standIns := [], harness := (true, "e426de29c82ff045b52eb692eaea2997a468c6b5e2287ece17c8888dffc13d8e"), looks := true }, kinds := [], alts := [], laidByText := true, laidKinds := [.handle], laidTests := true, laidLooks := .later }
def SignTwiceUptoCardSaid : Prop := Claim7.holds Tryz.pinned (.plain (OpenSpec.upto signTwiceSpec)) signTwiceUptoCard

/-- THE SECOND FORM's CARD OF 'chatelainelaw15.AskBack'. -/
def askBackUptoCard : Claim7 := { stood := { row := askBackUptoRow, standIns := [], harness := (true, "e426de29c82ff045b52eb692eaea2997a468c6b5e2287ece17c8888dffc13d8e"), looks := true }, kinds := [], alts := [], laidByText := true, laidKinds := [.handle], laidTests := true, laidLooks := .later }
def AskBackUptoCardSaid : Prop := Claim7.holds Tryz.pinned (.plain (OpenSpec.upto askBackSpec)) askBackUptoCard
end Rows
end Go.Proofs.YtdnhoebcomffoaaGreatDoor
