/-
  DERIVED. GIVEN WITH THE SEED: THE CARDS: each row of YtoeedbljiocpdaaDoorRows.lean that lists a variable, with what it lists TIED to the program's text (the seventh form; the later family's looks); each row that meets fmt, with fmt's text TOLD by the authors' own Lean function (tested against real Go, not proved from fmt's source: count such statements apart). THE CARD IS WHAT COUNTS. Prove the row's statement (the work); the ties are given (YtoeedbljiocpdaaDoorTie.lean); close each card by the builder's one call (the guide's Derived/Test/ToyasCard.lean, 'card_holds'). Laid BY PROGRAM, IN A SANDBOX (cutbox-door.mjs). By AI agents, Wed Nov 11 2026. No macro, syntax, notation, axiom, sorry.
-/
import Derived.Test.YtoeedbljiocpdaaDoorRows
import GoSem.ClaimSeven
namespace Go.Proofs.YtoeedbljiocpdaaDoor
namespace Rows

/-- THE TIED CARD OF 'chatelainelaw6.DrawLean'. -/
def drawLeanCard : Claim7 := { stood := { row := drawLeanRow, standIns := [], harness := (true, "47537840ae4eb4ce42205467648725e0fff456bd5816ee64e1e55af0287e6668"), looks := true }, kinds := [], alts := [], laidByText := true, laidKinds := [.handle], laidTests := true, laidLooks := .later }
def DrawLeanCardSaid : Prop := Claim7.holds Tryd.pinned (.plain (OpenSpec.ofChange drawLeanSpec)) drawLeanCard

/-- THE TIED CARD OF 'chatelainelaw6.DrawTells'. -/
def drawTellsCard : Claim7 := { stood := { row := drawTellsRow, standIns := [], harness := (true, "47537840ae4eb4ce42205467648725e0fff456bd5816ee64e1e55af0287e6668"), looks := true }, kinds := [], alts := [], laidByText := true, laidKinds := [.handle], laidTests := true, laidLooks := .later }
def DrawTellsCardSaid : Prop := Claim7.holds Tryd.pinned (.plain (OpenSpec.ofChange drawTellsSpec)) drawTellsCard

/-- THE TIED CARD OF 'chatelainelaw15.AskBodies'. -/
def askBodiesCard : Claim7 := { stood := { row := askBodiesRow, standIns := [], harness := (true, "47537840ae4eb4ce42205467648725e0fff456bd5816ee64e1e55af0287e6668"), looks := true }, kinds := [], alts := [], laidByText := true, laidKinds := [.handle], laidTests := true, laidLooks := .later }
def AskBodiesCardSaid : Prop := Claim7.holds Tryd.pinned (.plain (OpenSpec.ofChange askBodiesSpec)) askBodiesCard

/-- THE TIED CARD OF 'chatelainelaw15.AskReads'. -/
def askReadsCard : Claim7 := { stood := { row := askReadsRow, standIns := [], harness := (true, "47537840ae4eb4ce42205467648725e0fff456bd5816ee64e1e55af0287e6668"), looks := true }, kinds := [], alts := [], laidByText := true, laidKinds := [.handle], laidTests := true, laidLooks := .later }
def AskReadsCardSaid : Prop := Claim7.holds Tryd.pinned (.plain (OpenSpec.ofChange askReadsSpec)) askReadsCard

/-- THE TIED CARD OF 'chatelainelaw15.AskApart'. -/
def askApartCard : Claim7 := { stood := { row := askApartRow, standIns := [], harness := (true, "47537840ae4eb4ce42205467648725e0fff456bd5816ee64e1e55af0287e6668"), looks := true }, kinds := [], alts := [], laidByText := true, laidKinds := [.handle], laidTests := true, laidLooks := .later }
def AskApartCardSaid : Prop := Claim7.holds Tryd.pinned (.plain (OpenSpec.ofChange askApartSpec)) askApartCard

/-- THE TIED CARD OF 'chatelainelaw6.DrawSeeds'. -/
def drawSeedsCard : Claim7 := { stood := { row := drawSeedsRow, standIns := [], harness := (true, "47537840ae4eb4ce42205467648725e0fff456bd5816ee64e1e55af0287e6668"), looks := true }, kinds := [], alts := [], laidByText := true, laidKinds := [.handle], laidTests := true, laidLooks := .later }
def DrawSeedsCardSaid : Prop := Claim7.holds Tryd.pinned (.plain (OpenSpec.ofChange drawSeedsSpec)) drawSeedsCard

/-- THE TIED CARD OF 'chatelainelaw19.GrantsBytes'. -/
def grantsBytesCard : Claim7 := { stood := { row := grantsBytesRow, standIns := [], harness := (true, "47537840ae4eb4ce42205467648725e0fff456bd5816ee64e1e55af0287e6668"), looks := true }, kinds := [], alts := [], laidByText := true, laidKinds := [.handle], laidTests := true, laidLooks := .later }
def GrantsBytesCardSaid : Prop := Claim7.holds Tryd.pinned (.plain (OpenSpec.ofChange grantsBytesSpec)) grantsBytesCard

/-- THE TIED CARD OF 'chatelainelaw19.GrantsTell'. -/
def grantsTellCard : Claim7 := { stood := { row := grantsTellRow, standIns := [], harness := (true, "47537840ae4eb4ce42205467648725e0fff456bd5816ee64e1e55af0287e6668"), looks := true }, kinds := [], alts := [], laidByText := true, laidKinds := [.handle], laidTests := true, laidLooks := .later }
def GrantsTellCardSaid : Prop := Claim7.holds Tryd.pinned (.plain (OpenSpec.ofChange grantsTellSpec)) grantsTellCard

/-- THE TIED CARD OF 'chatelainelaw19.GrantsTokens'. -/
def grantsTokensCard : Claim7 := { stood := { row := grantsTokensRow, standIns := [], harness := (true, "47537840ae4eb4ce42205467648725e0fff456bd5816ee64e1e55af0287e6668"), looks := true }, kinds := [], alts := [], laidByText := true, laidKinds := [.handle], laidTests := true, laidLooks := .later }
def GrantsTokensCardSaid : Prop := Claim7.holds Tryd.pinned (.plain (OpenSpec.ofChange grantsTokensSpec)) grantsTokensCard

/-- THE SECOND FORM's CARD OF 'chatelainelaw6.DrawLean'. -/
def drawLeanUptoCard : Claim7 := { stood := { row := drawLeanUptoRow, standIns := [], harness := (true, "47537840ae4eb4ce42205467648725e0fff456bd5816ee64e1e55af0287e6668"), looks := true }, kinds := [], alts := [], laidByText := true, laidKinds := [.handle], laidTests := true, laidLooks := .later }
def DrawLeanUptoCardSaid : Prop := Claim7.holds Tryd.pinned (.plain (OpenSpec.upto drawLeanSpec)) drawLeanUptoCard

/-- THE SECOND FORM's CARD OF 'chatelainelaw6.DrawTells'. -/
def drawTellsUptoCard : Claim7 := { stood := { row := drawTellsUptoRow, standIns := [], harness := (true, "47537840ae4eb4ce42205467648725e0fff456bd5816ee64e1e55af0287e6668"), looks := true }, kinds := [], alts := [], laidByText := true, laidKinds := [.handle], laidTests := true, laidLooks := .later }
def DrawTellsUptoCardSaid : Prop := Claim7.holds Tryd.pinned (.plain (OpenSpec.upto drawTellsSpec)) drawTellsUptoCard

/-- THE SECOND FORM's CARD OF 'chatelainelaw15.AskBodies'. -/
def askBodiesUptoCard : Claim7 := { stood := { row := askBodiesUptoRow, standIns := [], harness := (true, "47537840ae4eb4ce42205467648725e0fff456bd5816ee64e1e55af0287e6668"), looks := true }, kinds := [], alts := [], laidByText := true, laidKinds := [.handle], laidTests := true, laidLooks := .later }
def AskBodiesUptoCardSaid : Prop := Claim7.holds Tryd.pinned (.plain (OpenSpec.upto askBodiesSpec)) askBodiesUptoCard

/-- THE SECOND FORM's CARD OF 'chatelainelaw15.AskReads'. -/
def askReadsUptoCard : Claim7 := { stood := { row := askReadsUptoRow, standIns := [], harness := (true, "47537840ae4eb4ce42205467648725e0fff456bd5816ee64e1e55af0287e6668"), looks := true }, kinds := [], alts := [], laidByText := true, laidKinds := [.handle], laidTests := true, laidLooks := .later }
def AskReadsUptoCardSaid : Prop := Claim7.holds Tryd.pinned (.plain (OpenSpec.upto askReadsSpec)) askReadsUptoCard

/-- THE SECOND FORM's CARD OF 'chatelainelaw15.AskApart'. -/
def askApartUptoCard : Claim7 := { stood := { row := askApartUptoRow, standIns := [], harness := (true, "47537840ae4eb4ce42205467648725e0fff456bd5816ee64e1e55af0287e6668"), looks := true }, kinds := [], alts := [], laidByText := true, laidKinds := [.handle], laidTests := true, laidLooks := .later }
def AskApartUptoCardSaid : Prop := Claim7.holds Tryd.pinned (.plain (OpenSpec.upto askApartSpec)) askApartUptoCard

/-- THE SECOND FORM's CARD OF 'chatelainelaw6.DrawSeeds'. -/
def drawSeedsUptoCard : Claim7 := { stood := { row := drawSeedsUptoRow, standIns := [], harness := (true, "47537840ae4eb4ce42205467648725e0fff456bd5816ee64e1e55af0287e6668"), looks := true }, kinds := [], alts := [], laidByText := true, laidKinds := [.handle], laidTests := true, laidLooks := .later }
def DrawSeedsUptoCardSaid : Prop := Claim7.holds Tryd.pinned (.plain (OpenSpec.upto drawSeedsSpec)) drawSeedsUptoCard

/-- THE SECOND FORM's CARD OF 'chatelainelaw19.GrantsBytes'. -/
def grantsBytesUptoCard : Claim7 := { stood := { row := grantsBytesUptoRow, standIns := [], harness := (true, "47537840ae4eb4ce42205467648725e0fff456bd5816ee64e1e55af0287e6668"), looks := true }, kinds := [], alts := [], laidByText := true, laidKinds := [.handle], laidTests := true, laidLooks := .later }
def GrantsBytesUptoCardSaid : Prop := Claim7.holds Tryd.pinned (.plain (OpenSpec.upto grantsBytesSpec)) grantsBytesUptoCard

/-- THE SECOND FORM's CARD OF 'chatelainelaw19.GrantsTell'. -/
def grantsTellUptoCard : Claim7 := { stood := { row := grantsTellUptoRow, standIns := [], harness := (true, "47537840ae4eb4ce42205467648725e0fff456bd5816ee64e1e55af0287e6668"), looks := true }, kinds := [], alts := [], laidByText := true, laidKinds := [.handle], laidTests := true, laidLooks := .later }
def GrantsTellUptoCardSaid : Prop := Claim7.holds Tryd.pinned (.plain (OpenSpec.upto grantsTellSpec)) grantsTellUptoCard

/-- THE SECOND FORM's CARD OF 'chatelainelaw19.GrantsTokens'. -/
def grantsTokensUptoCard : Claim7 := { stood := { row := grantsTokensUptoRow, standIns := [], harness := (true, "47537840ae4eb4ce42205467648725e0fff456bd5816ee64e1e55af0287e6668"), looks := true }, kinds := [], alts := [], laidByText := true, laidKinds := [.handle], laidTests := true, laidLooks := .later }
def GrantsTokensUptoCardSaid : Prop := Claim7.holds Tryd.pinned (.plain (OpenSpec.upto grantsTokensSpec)) grantsTokensUptoCard
end Rows
end Go.Proofs.YtoeedbljiocpdaaDoor
