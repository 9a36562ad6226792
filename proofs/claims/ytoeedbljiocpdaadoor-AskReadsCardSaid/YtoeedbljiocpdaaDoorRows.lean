/-
  NARROWER THAN 'FOR EVERY INPUT', by the rows' own cells (each row's printed sentence says how): DrawLean: laid · DrawTells: laid · AskBodies: laid · AskReads: laid · AskApart: laid · DrawSeeds: laid · GrantsBytes: laid · GrantsTell: laid · GrantsTokens: laid.
  DERIVED. THE GIVEN ROWS OF THIS SEAT. 9 by the template 'for every input the law returns true; each argument reads behind the call as it read before'; 0 by the template 'total and deterministic' (their statements: YtoeedbljiocpdaaDoorTotals.lean).
  GIVEN WITH THE SEED: the statements are not yours to turn. If you find one false, say at which input.
  Laid BY PROGRAM, IN A SANDBOX (cutbox-rows.mjs): the forced cells as the released guide's own fill.sh prints them over the translation 6cb8153c25132a7f… (all of the seat's roots in one cut). By AI agents, Wed Nov 11 2026. No macro, syntax, notation, axiom, sorry.
-/
import Derived.Test.YtoeedbljiocpdaaDoorChecked
import GoSem.Claim
import GoSem.ClaimJoined
import GoSem.ClaimMapViews
import Derived.JoinedTies
import Derived.KernelRfl
namespace Go.Proofs.YtoeedbljiocpdaaDoor
/- THE CELL 'sum', in the pinned program and in every row, IS THE sha256 OF THE DUMP (.gsa) THAT YtoeedbljiocpdaaDoorProg.lean LOADS. Nothing in Lean hashes anything: it is a label: what it is worth is what the hold of that sum in a sandbox is worth. -/
noncomputable def Tryd.pinned : Pinned := { name := "ytoeedbljiocpdaadoor", sum := "6cb8153c25132a7feebaf8fc66e239b8a43c8a3f1100725a0315fa60cda8f299", checked := Tryd.checked }
namespace Rows
def none {H : Type} : Left H := { results := [], args := [] }

/- WHAT THE LISTED PACKAGE-LEVEL VARIABLES READ AS WHEN THE CALL BEGINS. Each datum BY PROGRAM (the guide's laid-datum.mjs) off the statement by which the dump's own 'gosem.cut.vars' lays the variable. In a bare row this is a premise. The card (YtoeedbljiocpdaaDoorCards.lean) ties it to the program's text. -/
def laid_errors_errorType {H : Type} : DataW H := .iface "internal/reflectlite.rtype" (.agg [.ptr (.lit (.string [101, 114, 114, 111, 114]))])

/-- 'chatelainelaw6.DrawLean': WHATEVER THE INPUT: true; the input reads as it did. -/
def drawLeanSpec : ChangeSpec := { name := "drawLean", fn := fun _ => fun
  | [d1, d2] => { results := [.lit (.bool true)], args := [d1, d2] }
  | _ => none }
def drawLeanRow : OpenClaim := { program := "ytoeedbljiocpdaadoor", sum := "6cb8153c25132a7feebaf8fc66e239b8a43c8a3f1100725a0315fa60cda8f299", func := "chatelaine/chatelainelaw6.DrawLean", spec := "drawLean", inPlace := ["internal/reflectlite.ValueOf", "(internal/reflectlite.Value).Type", "(internal/reflectlite.Value).IsNil", "internal/reflectlite.TypeOf", "(internal/reflectlite.Value).Elem", "(internal/reflectlite.Value).Set"], unfollowed := true, recurses := true, named := ["errors.errorType"], apart := false, laid := [("errors.errorType", laid_errors_errorType)] }
def DrawLeanSaid : Prop := drawLeanRow.holds Tryd.pinned (OpenSpec.ofChange drawLeanSpec)

/-- ITS FALSE NEIGHBOUR: 'it returns false'. Refute it at one input. -/
def drawLeanWrong : ChangeSpec := { name := "drawLean", fn := fun _ => fun
  | [d1, d2] => { results := [.lit (.bool false)], args := [d1, d2] }
  | _ => none }
def DrawLeanWrongFalsely : Prop := drawLeanRow.holds Tryd.pinned (OpenSpec.ofChange drawLeanWrong)

/-- 'chatelainelaw6.DrawTells': WHATEVER THE INPUT: true; the input reads as it did. -/
def drawTellsSpec : ChangeSpec := { name := "drawTells", fn := fun _ => fun
  | [d1, d2, d3, d4, d5] => { results := [.lit (.bool true)], args := [d1, d2, d3, d4, d5] }
  | _ => none }
def drawTellsRow : OpenClaim := { program := "ytoeedbljiocpdaadoor", sum := "6cb8153c25132a7feebaf8fc66e239b8a43c8a3f1100725a0315fa60cda8f299", func := "chatelaine/chatelainelaw6.DrawTells", spec := "drawTells", inPlace := ["internal/reflectlite.ValueOf", "(internal/reflectlite.Value).Type", "(internal/reflectlite.Value).IsNil", "internal/reflectlite.TypeOf", "(internal/reflectlite.Value).Elem", "(internal/reflectlite.Value).Set"], unfollowed := true, recurses := true, named := ["errors.errorType"], apart := false, laid := [("errors.errorType", laid_errors_errorType)] }
def DrawTellsSaid : Prop := drawTellsRow.holds Tryd.pinned (OpenSpec.ofChange drawTellsSpec)

/-- ITS FALSE NEIGHBOUR: 'it returns false'. Refute it at one input. -/
def drawTellsWrong : ChangeSpec := { name := "drawTells", fn := fun _ => fun
  | [d1, d2, d3, d4, d5] => { results := [.lit (.bool false)], args := [d1, d2, d3, d4, d5] }
  | _ => none }
def DrawTellsWrongFalsely : Prop := drawTellsRow.holds Tryd.pinned (OpenSpec.ofChange drawTellsWrong)

/-- 'chatelainelaw15.AskBodies': WHATEVER THE INPUT: true; the input reads as it did. -/
def askBodiesSpec : ChangeSpec := { name := "askBodies", fn := fun _ => fun
  | [d1, d2] => { results := [.lit (.bool true)], args := [d1, d2] }
  | _ => none }
def askBodiesRow : OpenClaim := { program := "ytoeedbljiocpdaadoor", sum := "6cb8153c25132a7feebaf8fc66e239b8a43c8a3f1100725a0315fa60cda8f299", func := "chatelaine/chatelainelaw15.AskBodies", spec := "askBodies", inPlace := ["internal/reflectlite.ValueOf", "(internal/reflectlite.Value).Type", "(internal/reflectlite.Value).IsNil", "internal/reflectlite.TypeOf", "(internal/reflectlite.Value).Elem", "(internal/reflectlite.Value).Set"], unfollowed := true, recurses := true, named := ["errors.errorType"], apart := false, laid := [("errors.errorType", laid_errors_errorType)] }
def AskBodiesSaid : Prop := askBodiesRow.holds Tryd.pinned (OpenSpec.ofChange askBodiesSpec)

/-- ITS FALSE NEIGHBOUR: 'it returns false'. Refute it at one input. -/
def askBodiesWrong : ChangeSpec := { name := "askBodies", fn := fun _ => fun
  | [d1, d2] => { results := [.lit (.bool false)], args := [d1, d2] }
  | _ => none }
def AskBodiesWrongFalsely : Prop := askBodiesRow.holds Tryd.pinned (OpenSpec.ofChange askBodiesWrong)

/-- 'chatelainelaw15.AskReads': WHATEVER THE INPUT: true; the input reads as it did. -/
def askReadsSpec : ChangeSpec := { name := "askReads", fn := fun _ => fun
  | [d1, d2, d3] => { results := [.lit (.bool true)], args := [d1, d2, d3] }
  | _ => none }
def askReadsRow : OpenClaim := { program := "ytoeedbljiocpdaadoor", sum := "6cb8153c25132a7feebaf8fc66e239b8a43c8a3f1100725a0315fa60cda8f299", func := "chatelaine/chatelainelaw15.AskReads", spec := "askReads", inPlace := ["internal/reflectlite.ValueOf", "(internal/reflectlite.Value).Type", "(internal/reflectlite.Value).IsNil", "internal/reflectlite.TypeOf", "(internal/reflectlite.Value).Elem", "(internal/reflectlite.Value).Set"], unfollowed := true, recurses := true, named := ["errors.errorType"], apart := false, laid := [("errors.errorType", laid_errors_errorType)] }
def AskReadsSaid : Prop := askReadsRow.holds Tryd.pinned (OpenSpec.ofChange askReadsSpec)

/-- ITS FALSE NEIGHBOUR: 'it returns false'. Refute it at one input. -/
def askReadsWrong : ChangeSpec := { name := "askReads", fn := fun _ => fun
  | [d1, d2, d3] => { results := [.lit (.bool false)], args := [d1, d2, d3] }
  | _ => none }
def AskReadsWrongFalsely : Prop := askReadsRow.holds Tryd.pinned (OpenSpec.ofChange askReadsWrong)

/-- 'chatelainelaw15.AskApart': WHATEVER THE INPUT: true; the input reads as it did. -/
def askApartSpec : ChangeSpec := { name := "askApart", fn := fun _ => fun
  | [d1, d2] => { results := [.lit (.bool true)], args := [d1, d2] }
  | _ => none }
def askApartRow : OpenClaim := { program := "ytoeedbljiocpdaadoor", sum := "6cb8153c25132a7feebaf8fc66e239b8a43c8a3f1100725a0315fa60cda8f299", func := "chatelaine/chatelainelaw15.AskApart", spec := "askApart", inPlace := ["internal/reflectlite.ValueOf", "(internal/reflectlite.Value).Type", "(internal/reflectlite.Value).IsNil", "internal/reflectlite.TypeOf", "(internal/reflectlite.Value).Elem", "(internal/reflectlite.Value).Set"], unfollowed := true, recurses := true, named := ["errors.errorType"], apart := false, laid := [("errors.errorType", laid_errors_errorType)] }
def AskApartSaid : Prop := askApartRow.holds Tryd.pinned (OpenSpec.ofChange askApartSpec)

/-- ITS FALSE NEIGHBOUR: 'it returns false'. Refute it at one input. -/
def askApartWrong : ChangeSpec := { name := "askApart", fn := fun _ => fun
  | [d1, d2] => { results := [.lit (.bool false)], args := [d1, d2] }
  | _ => none }
def AskApartWrongFalsely : Prop := askApartRow.holds Tryd.pinned (OpenSpec.ofChange askApartWrong)

/-- 'chatelainelaw6.DrawSeeds': WHATEVER THE INPUT: true; the input reads as it did. -/
def drawSeedsSpec : ChangeSpec := { name := "drawSeeds", fn := fun _ => fun
  | [d1, d2, d3, d4] => { results := [.lit (.bool true)], args := [d1, d2, d3, d4] }
  | _ => none }
def drawSeedsRow : OpenClaim := { program := "ytoeedbljiocpdaadoor", sum := "6cb8153c25132a7feebaf8fc66e239b8a43c8a3f1100725a0315fa60cda8f299", func := "chatelaine/chatelainelaw6.DrawSeeds", spec := "drawSeeds", inPlace := ["internal/reflectlite.ValueOf", "(internal/reflectlite.Value).Type", "(internal/reflectlite.Value).IsNil", "internal/reflectlite.TypeOf", "(internal/reflectlite.Value).Elem", "(internal/reflectlite.Value).Set"], unfollowed := true, recurses := true, named := ["errors.errorType"], apart := false, laid := [("errors.errorType", laid_errors_errorType)] }
def DrawSeedsSaid : Prop := drawSeedsRow.holds Tryd.pinned (OpenSpec.ofChange drawSeedsSpec)

/-- ITS FALSE NEIGHBOUR: 'it returns false'. Refute it at one input. -/
def drawSeedsWrong : ChangeSpec := { name := "drawSeeds", fn := fun _ => fun
  | [d1, d2, d3, d4] => { results := [.lit (.bool false)], args := [d1, d2, d3, d4] }
  | _ => none }
def DrawSeedsWrongFalsely : Prop := drawSeedsRow.holds Tryd.pinned (OpenSpec.ofChange drawSeedsWrong)

/-- 'chatelainelaw19.GrantsBytes': WHATEVER THE INPUT: true; the input reads as it did. -/
def grantsBytesSpec : ChangeSpec := { name := "grantsBytes", fn := fun _ => fun
  | [d1, d2, d3] => { results := [.lit (.bool true)], args := [d1, d2, d3] }
  | _ => none }
def grantsBytesRow : OpenClaim := { program := "ytoeedbljiocpdaadoor", sum := "6cb8153c25132a7feebaf8fc66e239b8a43c8a3f1100725a0315fa60cda8f299", func := "chatelaine/chatelainelaw19.GrantsBytes", spec := "grantsBytes", inPlace := ["internal/reflectlite.ValueOf", "(internal/reflectlite.Value).Type", "(internal/reflectlite.Value).IsNil", "internal/reflectlite.TypeOf", "(internal/reflectlite.Value).Elem", "(internal/reflectlite.Value).Set"], unfollowed := true, recurses := true, named := ["errors.errorType"], apart := false, laid := [("errors.errorType", laid_errors_errorType)] }
def GrantsBytesSaid : Prop := grantsBytesRow.holds Tryd.pinned (OpenSpec.ofChange grantsBytesSpec)

/-- ITS FALSE NEIGHBOUR: 'it returns false'. Refute it at one input. -/
def grantsBytesWrong : ChangeSpec := { name := "grantsBytes", fn := fun _ => fun
  | [d1, d2, d3] => { results := [.lit (.bool false)], args := [d1, d2, d3] }
  | _ => none }
def GrantsBytesWrongFalsely : Prop := grantsBytesRow.holds Tryd.pinned (OpenSpec.ofChange grantsBytesWrong)

/-- 'chatelainelaw19.GrantsTell': WHATEVER THE INPUT: true; the input reads as it did. -/
def grantsTellSpec : ChangeSpec := { name := "grantsTell", fn := fun _ => fun
  | [d1, d2, d3, d4, d5, d6, d7, d8, d9] => { results := [.lit (.bool true)], args := [d1, d2, d3, d4, d5, d6, d7, d8, d9] }
  | _ => none }
def grantsTellRow : OpenClaim := { program := "ytoeedbljiocpdaadoor", sum := "6cb8153c25132a7feebaf8fc66e239b8a43c8a3f1100725a0315fa60cda8f299", func := "chatelaine/chatelainelaw19.GrantsTell", spec := "grantsTell", inPlace := ["internal/reflectlite.ValueOf", "(internal/reflectlite.Value).Type", "(internal/reflectlite.Value).IsNil", "internal/reflectlite.TypeOf", "(internal/reflectlite.Value).Elem", "(internal/reflectlite.Value).Set"], unfollowed := true, recurses := true, named := ["errors.errorType"], apart := false, laid := [("errors.errorType", laid_errors_errorType)] }
def GrantsTellSaid : Prop := grantsTellRow.holds Tryd.pinned (OpenSpec.ofChange grantsTellSpec)

/-- ITS FALSE NEIGHBOUR: 'it returns false'. Refute it at one input. -/
def grantsTellWrong : ChangeSpec := { name := "grantsTell", fn := fun _ => fun
  | [d1, d2, d3, d4, d5, d6, d7, d8, d9] => { results := [.lit (.bool false)], args := [d1, d2, d3, d4, d5, d6, d7, d8, d9] }
  | _ => none }
def GrantsTellWrongFalsely : Prop := grantsTellRow.holds Tryd.pinned (OpenSpec.ofChange grantsTellWrong)

/-- 'chatelainelaw19.GrantsTokens': WHATEVER THE INPUT: true; the input reads as it did. -/
def grantsTokensSpec : ChangeSpec := { name := "grantsTokens", fn := fun _ => fun
  | [d1, d2, d3, d4, d5] => { results := [.lit (.bool true)], args := [d1, d2, d3, d4, d5] }
  | _ => none }
def grantsTokensRow : OpenClaim := { program := "ytoeedbljiocpdaadoor", sum := "6cb8153c25132a7feebaf8fc66e239b8a43c8a3f1100725a0315fa60cda8f299", func := "chatelaine/chatelainelaw19.GrantsTokens", spec := "grantsTokens", inPlace := ["internal/reflectlite.ValueOf", "(internal/reflectlite.Value).Type", "(internal/reflectlite.Value).IsNil", "internal/reflectlite.TypeOf", "(internal/reflectlite.Value).Elem", "(internal/reflectlite.Value).Set"], unfollowed := true, recurses := true, named := ["errors.errorType"], apart := false, laid := [("errors.errorType", laid_errors_errorType)] }
def GrantsTokensSaid : Prop := grantsTokensRow.holds Tryd.pinned (OpenSpec.ofChange grantsTokensSpec)

/-- ITS FALSE NEIGHBOUR: 'it returns false'. Refute it at one input. -/
def grantsTokensWrong : ChangeSpec := { name := "grantsTokens", fn := fun _ => fun
  | [d1, d2, d3, d4, d5] => { results := [.lit (.bool false)], args := [d1, d2, d3, d4, d5] }
  | _ => none }
def GrantsTokensWrongFalsely : Prop := grantsTokensRow.holds Tryd.pinned (OpenSpec.ofChange grantsTokensWrong)

/- THE SECOND FORM. 'bulk': how many values and letters a reading holds, each counted each time it is reached (what is shared counts as often as it is met; a slice's spare places count too). A statement '..UptoSaid' is the law's where the arguments, and the package variables that the reading takes, are together of bulk at most 1048576: NARROWER than '..Said'. Prove '..Said' where nothing that the law and all that it calls make is longer than what came in: it says more and counts as full. Else prove '..UptoSaid'. A law counts once. -/
mutual
def uptoBulk {H : Type} : DataW H → Nat
  | .lit (.string bytes) => bytes.length + 1
  | .lit _ => 1
  | .nil => 1
  | .ptr d => uptoBulk d + 1
  | .slice elems spare => uptoBulkAll elems + uptoBulkAll spare + 1
  | .agg parts => uptoBulkAll parts + 1
  | .iface _ d => uptoBulk d + 1
  | .map entries => uptoBulkEntries entries + 1
  | .held _ => 1
def uptoBulkAll {H : Type} : List (DataW H) → Nat
  | [] => 0
  | d :: r => uptoBulk d + uptoBulkAll r
def uptoBulkEntries {H : Type} : List (Lit × DataW H) → Nat
  | [] => 0
  | x :: r => uptoBulkEntry x + uptoBulkEntries r
def uptoBulkEntry {H : Type} : Lit × DataW H → Nat
  | (.string bytes, d) => bytes.length + uptoBulk d + 1
  | (_, d) => uptoBulk d + 1
 end
def uptoSmall : (H : Type) → List (DataW H) → Bool := fun _ ds => decide (uptoBulkAll ds ≤ 1048576)
def OpenSpec.upto (s : _root_.Go.ChangeSpec) : _root_.Go.OpenSpec := { _root_.Go.OpenSpec.ofChange s with cond := some uptoSmall }

/-- 'chatelainelaw6.DrawLean', WHERE WHAT IT READS IS OF BULK AT MOST 1048576: true; the input reads as it did. -/
def drawLeanUptoRow : OpenClaim := { program := "ytoeedbljiocpdaadoor", sum := "6cb8153c25132a7feebaf8fc66e239b8a43c8a3f1100725a0315fa60cda8f299", func := "chatelaine/chatelainelaw6.DrawLean", spec := "drawLean", inPlace := ["internal/reflectlite.ValueOf", "(internal/reflectlite.Value).Type", "(internal/reflectlite.Value).IsNil", "internal/reflectlite.TypeOf", "(internal/reflectlite.Value).Elem", "(internal/reflectlite.Value).Set"], unfollowed := true, recurses := true, named := ["errors.errorType"], apart := false, laid := [("errors.errorType", laid_errors_errorType)], narrowed := true }
def DrawLeanUptoSaid : Prop := drawLeanUptoRow.holds Tryd.pinned (OpenSpec.upto drawLeanSpec)

/-- 'chatelainelaw6.DrawTells', WHERE WHAT IT READS IS OF BULK AT MOST 1048576: true; the input reads as it did. -/
def drawTellsUptoRow : OpenClaim := { program := "ytoeedbljiocpdaadoor", sum := "6cb8153c25132a7feebaf8fc66e239b8a43c8a3f1100725a0315fa60cda8f299", func := "chatelaine/chatelainelaw6.DrawTells", spec := "drawTells", inPlace := ["internal/reflectlite.ValueOf", "(internal/reflectlite.Value).Type", "(internal/reflectlite.Value).IsNil", "internal/reflectlite.TypeOf", "(internal/reflectlite.Value).Elem", "(internal/reflectlite.Value).Set"], unfollowed := true, recurses := true, named := ["errors.errorType"], apart := false, laid := [("errors.errorType", laid_errors_errorType)], narrowed := true }
def DrawTellsUptoSaid : Prop := drawTellsUptoRow.holds Tryd.pinned (OpenSpec.upto drawTellsSpec)

/-- 'chatelainelaw15.AskBodies', WHERE WHAT IT READS IS OF BULK AT MOST 1048576: true; the input reads as it did. -/
def askBodiesUptoRow : OpenClaim := { program := "ytoeedbljiocpdaadoor", sum := "6cb8153c25132a7feebaf8fc66e239b8a43c8a3f1100725a0315fa60cda8f299", func := "chatelaine/chatelainelaw15.AskBodies", spec := "askBodies", inPlace := ["internal/reflectlite.ValueOf", "(internal/reflectlite.Value).Type", "(internal/reflectlite.Value).IsNil", "internal/reflectlite.TypeOf", "(internal/reflectlite.Value).Elem", "(internal/reflectlite.Value).Set"], unfollowed := true, recurses := true, named := ["errors.errorType"], apart := false, laid := [("errors.errorType", laid_errors_errorType)], narrowed := true }
def AskBodiesUptoSaid : Prop := askBodiesUptoRow.holds Tryd.pinned (OpenSpec.upto askBodiesSpec)

/-- 'chatelainelaw15.AskReads', WHERE WHAT IT READS IS OF BULK AT MOST 1048576: true; the input reads as it did. -/
def askReadsUptoRow : OpenClaim := { program := "ytoeedbljiocpdaadoor", sum := "6cb8153c25132a7feebaf8fc66e239b8a43c8a3f1100725a0315fa60cda8f299", func := "chatelaine/chatelainelaw15.AskReads", spec := "askReads", inPlace := ["internal/reflectlite.ValueOf", "(internal/reflectlite.Value).Type", "(internal/reflectlite.Value).IsNil", "internal/reflectlite.TypeOf", "(internal/reflectlite.Value).Elem", "(internal/reflectlite.Value).Set"], unfollowed := true, recurses := true, named := ["errors.errorType"], apart := false, laid := [("errors.errorType", laid_errors_errorType)], narrowed := true }
def AskReadsUptoSaid : Prop := askReadsUptoRow.holds Tryd.pinned (OpenSpec.upto askReadsSpec)

/-- 'chatelainelaw15.AskApart', WHERE WHAT IT READS IS OF BULK AT MOST 1048576: true; the input reads as it did. -/
def askApartUptoRow : OpenClaim := { program := "ytoeedbljiocpdaadoor", sum := "6cb8153c25132a7feebaf8fc66e239b8a43c8a3f1100725a0315fa60cda8f299", func := "chatelaine/chatelainelaw15.AskApart", spec := "askApart", inPlace := ["internal/reflectlite.ValueOf", "(internal/reflectlite.Value).Type", "(internal/reflectlite.Value).IsNil", "internal/reflectlite.TypeOf", "(internal/reflectlite.Value).Elem", "(internal/reflectlite.Value).Set"], unfollowed := true, recurses := true, named := ["errors.errorType"], apart := false, laid := [("errors.errorType", laid_errors_errorType)], narrowed := true }
def AskApartUptoSaid : Prop := askApartUptoRow.holds Tryd.pinned (OpenSpec.upto askApartSpec)

/-- 'chatelainelaw6.DrawSeeds', WHERE WHAT IT READS IS OF BULK AT MOST 1048576: true; the input reads as it did. -/
def drawSeedsUptoRow : OpenClaim := { program := "ytoeedbljiocpdaadoor", sum := "6cb8153c25132a7feebaf8fc66e239b8a43c8a3f1100725a0315fa60cda8f299", func := "chatelaine/chatelainelaw6.DrawSeeds", spec := "drawSeeds", inPlace := ["internal/reflectlite.ValueOf", "(internal/reflectlite.Value).Type", "(internal/reflectlite.Value).IsNil", "internal/reflectlite.TypeOf", "(internal/reflectlite.Value).Elem", "(internal/reflectlite.Value).Set"], unfollowed := true, recurses := true, named := ["errors.errorType"], apart := false, laid := [("errors.errorType", laid_errors_errorType)], narrowed := true }
def DrawSeedsUptoSaid : Prop := drawSeedsUptoRow.holds Tryd.pinned (OpenSpec.upto drawSeedsSpec)

/-- 'chatelainelaw19.GrantsBytes', WHERE WHAT IT READS IS OF BULK AT MOST 1048576: true; the input reads as it did. -/
def grantsBytesUptoRow : OpenClaim := { program := "ytoeedbljiocpdaadoor", sum := "6cb8153c25132a7feebaf8fc66e239b8a43c8a3f1100725a0315fa60cda8f299", func := "chatelaine/chatelainelaw19.GrantsBytes", spec := "grantsBytes", inPlace := ["internal/reflectlite.ValueOf", "(internal/reflectlite.Value).Type", "(internal/reflectlite.Value).IsNil", "internal/reflectlite.TypeOf", "(internal/reflectlite.Value).Elem", "(internal/reflectlite.Value).Set"], unfollowed := true, recurses := true, named := ["errors.errorType"], apart := false, laid := [("errors.errorType", laid_errors_errorType)], narrowed := true }
def GrantsBytesUptoSaid : Prop := grantsBytesUptoRow.holds Tryd.pinned (OpenSpec.upto grantsBytesSpec)

/-- 'chatelainelaw19.GrantsTell', WHERE WHAT IT READS IS OF BULK AT MOST 1048576: true; the input reads as it did. -/
def grantsTellUptoRow : OpenClaim := { program := "ytoeedbljiocpdaadoor", sum := "6cb8153c25132a7feebaf8fc66e239b8a43c8a3f1100725a0315fa60cda8f299", func := "chatelaine/chatelainelaw19.GrantsTell", spec := "grantsTell", inPlace := ["internal/reflectlite.ValueOf", "(internal/reflectlite.Value).Type", "(internal/reflectlite.Value).IsNil", "internal/reflectlite.TypeOf", "(internal/reflectlite.Value).Elem", "(internal/reflectlite.Value).Set"], unfollowed := true, recurses := true, named := ["errors.errorType"], apart := false, laid := [("errors.errorType", laid_errors_errorType)], narrowed := true }
def GrantsTellUptoSaid : Prop := grantsTellUptoRow.holds Tryd.pinned (OpenSpec.upto grantsTellSpec)

/-- 'chatelainelaw19.GrantsTokens', WHERE WHAT IT READS IS OF BULK AT MOST 1048576: true; the input reads as it did. -/
def grantsTokensUptoRow : OpenClaim := { program := "ytoeedbljiocpdaadoor", sum := "6cb8153c25132a7feebaf8fc66e239b8a43c8a3f1100725a0315fa60cda8f299", func := "chatelaine/chatelainelaw19.GrantsTokens", spec := "grantsTokens", inPlace := ["internal/reflectlite.ValueOf", "(internal/reflectlite.Value).Type", "(internal/reflectlite.Value).IsNil", "internal/reflectlite.TypeOf", "(internal/reflectlite.Value).Elem", "(internal/reflectlite.Value).Set"], unfollowed := true, recurses := true, named := ["errors.errorType"], apart := false, laid := [("errors.errorType", laid_errors_errorType)], narrowed := true }
def GrantsTokensUptoSaid : Prop := grantsTokensUptoRow.holds Tryd.pinned (OpenSpec.upto grantsTokensSpec)

end Rows
end Go.Proofs.YtoeedbljiocpdaaDoor
