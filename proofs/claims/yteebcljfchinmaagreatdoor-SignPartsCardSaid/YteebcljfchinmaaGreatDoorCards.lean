/-
  DERIVED. GIVEN WITH THE SEED: THE CARDS: each row of YteebcljfchinmaaGreatDoorRows.lean that lists a variable, with what it lists TIED to the program's text (the seventh form; the later family's looks); each row that meets fmt, with fmt's text TOLD by the authors' own Lean function (tested against real Go, not proved from fmt's source: count such statements apart). THE CARD IS WHAT COUNTS. Prove the row's statement (the work); the ties are given (YteebcljfchinmaaGreatDoorTie.lean); close each card by the builder's one call (the guide's Derived/Test/ToyasCard.lean, 'card_holds'). Laid BY PROGRAM, IN A SANDBOX (cutbox-door.mjs). By AI agents, Wed Nov 11 2026. No macro, syntax, notation, axiom, sorry.
-/
import Derived.Test.YteebcljfchinmaaGreatDoorRows
import GoSem.ClaimSeven
namespace Go.Proofs.YteebcljfchinmaaGreatDoor
namespace Rows

/-- THE TIED CARD OF 'chatelainelaw13.SignDigests'. -/
def signDigestsCard : Claim7 := { stood := { row := signDigestsRow, standIns := [], harness := (true, "e646ed944360cc29d330a9c0e10e25f22c8c98f03159c3800769f039fa8e5086"), looks := true }, kinds := [], alts := [], laidByText := true, laidKinds := [.handle], laidTests := true, laidLooks := .later }
def SignDigestsCardSaid : Prop := Claim7.holds Tryz.pinned (.plain (OpenSpec.ofChange signDigestsSpec)) signDigestsCard

/-- THE TIED CARD OF 'chatelainelaw13.SignKeys'. -/
def signKeysCard : Claim7 := { stood := { row := signKeysRow, standIns := [], harness := (true, "e646ed944360cc29d330a9c0e10e25f22c8c98f03159c3800769f039fa8e5086"), looks := true }, kinds := [], alts := [], laidByText := true, laidKinds := [.handle], laidTests := true, laidLooks := .later }
def SignKeysCardSaid : Prop := Claim7.holds Tryz.pinned (.plain (OpenSpec.ofChange signKeysSpec)) signKeysCard

/-- THE TIED CARD OF 'chatelainelaw13.SignSigns'. -/
def signSignsCard : Claim7 := { stood := { row := signSignsRow, standIns := [], harness := (true, "e646ed944360cc29d330a9c0e10e25f22c8c98f03159c3800769f039fa8e5086"), looks := true }, kinds := [], alts := [], laidByText := true, laidKinds := [.handle], laidTests := true, laidLooks := .later }
def SignSignsCardSaid : Prop := Claim7.holds Tryz.pinned (.plain (OpenSpec.ofChange signSignsSpec)) signSignsCard

/-- THE TIED CARD OF 'chatelainelaw13.SignSets'. -/
def signSetsCard : Claim7 := { stood := { row := signSetsRow, standIns := [], harness := (true, "e646ed944360cc29d330a9c0e10e25f22c8c98f03159c3800769f039fa8e5086"), looks := true }, kinds := [], alts := [], laidByText := true, laidKinds := [.handle], laidTests := true, laidLooks := .later }
def SignSetsCardSaid : Prop := Claim7.holds Tryz.pinned (.plain (OpenSpec.ofChange signSetsSpec)) signSetsCard

/-- THE TIED CARD OF 'chatelainelaw13.SignWrong'. -/
def signWrongCard : Claim7 := { stood := { row := signWrongRow, standIns := [], harness := (true, "e646ed944360cc29d330a9c0e10e25f22c8c98f03159c3800769f039fa8e5086"), looks := true }, kinds := [], alts := [], laidByText := true, laidKinds := [.handle], laidTests := true, laidLooks := .later }
def SignWrongCardSaid : Prop := Claim7.holds Tryz.pinned (.plain (OpenSpec.ofChange signWrongSpec)) signWrongCard

/-- THE TIED CARD OF 'chatelainelaw13.SignTwice'. -/
def signTwiceCard : Claim7 := { stood := { row := signTwiceRow, standIns := [], harness := (true, "e646ed944360cc29d330a9c0e10e25f22c8c98f03159c3800769f039fa8e5086"), looks := true }, kinds := [], alts := [], laidByText := true, laidKinds := [.handle], laidTests := true, laidLooks := .later }
def SignTwiceCardSaid : Prop := Claim7.holds Tryz.pinned (.plain (OpenSpec.ofChange signTwiceSpec)) signTwiceCard

/-- THE TIED CARD OF 'chatelainelaw13.SignParts'. -/
def signPartsCard : Claim7 := { stood := { row := signPartsRow, standIns := [], harness := (true, "e646ed944360cc29d330a9c0e10e25f22c8c98f03159c3800769f039fa8e5086"), looks := true }, kinds := [], alts := [], laidByText := true, laidKinds := [.handle], laidTests := true, laidLooks := .later }
def SignPartsCardSaid : Prop := Claim7.holds Tryz.pinned (.plain (OpenSpec.ofChange signPartsSpec)) signPartsCard

/-- THE TIED CARD OF 'chatelainelaw13.SignBroken'. -/
def signBrokenCard : Claim7 := { stood := { row := signBrokenRow, standIns := [], harness := (true, "e646ed944360cc29d330a9c0e10e25f22c8c98f03159c3800769f039fa8e5086"), looks := true }, kinds := [], alts := [], laidByText := true, laidKinds := [.handle], laidTests := true, laidLooks := .later }
def SignBrokenCardSaid : Prop := Claim7.holds Tryz.pinned (.plain (OpenSpec.ofChange signBrokenSpec)) signBrokenCard

/-- THE SECOND FORM's CARD OF 'chatelainelaw13.SignDigests'. -/
def signDigestsUptoCard : Claim7 := { stood := { row := signDigestsUptoRow, standIns := [], harness := (true, "e646ed944360cc29d330a9c0e10e25f22c8c98f03159c3800769f039fa8e5086"), looks := true }, kinds := [], alts := [], laidByText := true, laidKinds := [.handle], laidTests := true, laidLooks := .later }
def SignDigestsUptoCardSaid : Prop := Claim7.holds Tryz.pinned (.plain (OpenSpec.upto signDigestsSpec)) signDigestsUptoCard

/-- THE SECOND FORM's CARD OF 'chatelainelaw13.SignKeys'. -/
def signKeysUptoCard : Claim7 := { stood := { row := signKeysUptoRow, standIns := [], harness := (true, "e646ed944360cc29d330a9c0e10e25f22c8c98f03159c3800769f039fa8e5086"), looks := true }, kinds := [], alts := [], laidByText := true, laidKinds := [.handle], laidTests := true, laidLooks := .later }
def SignKeysUptoCardSaid : Prop := Claim7.holds Tryz.pinned (.plain (OpenSpec.upto signKeysSpec)) signKeysUptoCard

/-- THE SECOND FORM's CARD OF 'chatelainelaw13.SignSigns'. -/
def signSignsUptoCard : Claim7 := { stood := { row := signSignsUptoRow, standIns := [], harness := (true, "e646ed944360cc29d330a9c0e10e25f22c8c98f03159c3800769f039fa8e5086"), looks := true }, kinds := [], alts := [], laidByText := true, laidKinds := [.handle], laidTests := true, laidLooks := .later }
def SignSignsUptoCardSaid : Prop := Claim7.holds Tryz.pinned (.plain (OpenSpec.upto signSignsSpec)) signSignsUptoCard

/-- THE SECOND FORM's CARD OF 'chatelainelaw13.SignSets'. -/
def signSetsUptoCard : Claim7 := { stood := { row := signSetsUptoRow, standIns := [], harness := (true, "e646ed944360cc29d330a9c0e10e25f22c8c98f03159c3800769f039fa8e5086"), looks := true }, kinds := [], alts := [], laidByText := true, laidKinds := [.handle], laidTests := true, laidLooks := .later }
def SignSetsUptoCardSaid : Prop := Claim7.holds Tryz.pinned (.plain (OpenSpec.upto signSetsSpec)) signSetsUptoCard

/-- THE SECOND FORM's CARD OF 'chatelainelaw13.SignWrong'. -/
def signWrongUptoCard : Claim7 := { stood := { row := signWrongUptoRow, standIns := [], harness := (true, "e646ed944360cc29d330a9c0e10e25f22c8c98f03159c3800769f039fa8e5086"), looks := true }, kinds := [], alts := [], laidByText := true, laidKinds := [.handle], laidTests := true, laidLooks := .later }
def SignWrongUptoCardSaid : Prop := Claim7.holds Tryz.pinned (.plain (OpenSpec.upto signWrongSpec)) signWrongUptoCard

/-- THE SECOND FORM's CARD OF 'chatelainelaw13.SignTwice'. -/
def signTwiceUptoCard : Claim7 := { stood := { row := signTwiceUptoRow, standIns := [], harness := (true, "e646ed944360cc29d330a9c0e10e25f22c8c98f03159c3800769f039fa8e5086"), looks := true }, kinds := [], alts := [], laidByText := true, laidKinds := [.handle], laidTests := true, laidLooks := .later }
def SignTwiceUptoCardSaid : Prop := Claim7.holds Tryz.pinned (.plain (OpenSpec.upto signTwiceSpec)) signTwiceUptoCard

/-- THE SECOND FORM's CARD OF 'chatelainelaw13.SignParts'. -/
def signPartsUptoCard : Claim7 := { stood := { row := signPartsUptoRow, standIns := [], harness := (true, "e646ed944360cc29d330a9c0e10e25f22c8c98f03159c3800769f039fa8e5086"), looks := true }, kinds := [], alts := [], laidByText := true, laidKinds := [.handle], laidTests := true, laidLooks := .later }
def SignPartsUptoCardSaid : Prop := Claim7.holds Tryz.pinned (.plain (OpenSpec.upto signPartsSpec)) signPartsUptoCard

/-- THE SECOND FORM's CARD OF 'chatelainelaw13.SignBroken'. -/
def signBrokenUptoCard : Claim7 := { stood := { row := signBrokenUptoRow, standIns := [], harness := (true, "e646ed944360cc29d330a9c0e10e25f22c8c98f03159c3800769f039fa8e5086"), looks := true }, kinds := [], alts := [], laidByText := true, laidKinds := [.handle], laidTests := true, laidLooks := .later }
def SignBrokenUptoCardSaid : Prop := Claim7.holds Tryz.pinned (.plain (OpenSpec.upto signBrokenSpec)) signBrokenUptoCard
end Rows
end Go.Proofs.YteebcljfchinmaaGreatDoor
