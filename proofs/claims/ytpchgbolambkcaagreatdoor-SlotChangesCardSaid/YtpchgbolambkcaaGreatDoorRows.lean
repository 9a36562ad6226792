/-
  NARROWER THAN 'FOR EVERY INPUT', by the rows' own cells (each row's printed sentence says how): SlotChanges: laid · SlotSaves: laid · SlotTorn: laid · SlotReplays: laid · SlotWipes: laid · SlotRows: laid.
  DERIVED. THE GIVEN ROWS OF THIS SEAT. 6 by the template 'for every input the law returns true; each argument reads behind the call as it read before'; 0 by the template 'total and deterministic' (their statements: YtpchgbolambkcaaGreatDoorTotals.lean).
  GIVEN WITH THE SEED: the statements are not yours to turn. If you find one false, say at which input.
  Laid BY PROGRAM, IN A SANDBOX (cutbox-rows.mjs): the forced cells as the released guide's own fill.sh prints them over the translation 0c595cba6fc44688… (all of the seat's roots in one cut). By AI agents, Wed Nov 11 2026. No macro, syntax, notation, axiom, sorry.
-/
import Derived.Test.YtpchgbolambkcaaGreatDoorChecked
import GoSem.Claim
import GoSem.ClaimJoined
import GoSem.ClaimMapViews
import Derived.JoinedTies
import Derived.KernelRfl
namespace Go.Proofs.YtpchgbolambkcaaGreatDoor
/- THE CELL 'sum', in the pinned program and in every row, IS THE sha256 OF THE DUMP (.gsa) THAT YtpchgbolambkcaaGreatDoorProg.lean LOADS. Nothing in Lean hashes anything: it is a label: what it is worth is what the hold of that sum in a sandbox is worth. -/
noncomputable def Tryz.pinned : Pinned := { name := "ytpchgbolambkcaagreatdoor", sum := "0c595cba6fc44688033ebe1eb3f5a41ee27fefb3f5ea3a5bd221f76e06716de6", checked := Tryz.checked }
namespace Rows
def none {H : Type} : Left H := { results := [], args := [] }

/- WHAT THE LISTED PACKAGE-LEVEL VARIABLES READ AS WHEN THE CALL BEGINS. Each datum BY PROGRAM (the guide's laid-datum.mjs) off the statement by which the dump's own 'gosem.cut.vars' lays the variable. In a bare row this is a premise. The card (YtpchgbolambkcaaGreatDoorCards.lean) ties it to the program's text. -/
def laid_errors_errorType {H : Type} : DataW H := .iface "internal/reflectlite.rtype" (.agg [.ptr (.lit (.string [101, 114, 114, 111, 114]))])

/-- 'chatelainelaw25.SlotChanges': WHATEVER THE INPUT: true; the input reads as it did. -/
def slotChangesSpec : ChangeSpec := { name := "slotChanges", fn := fun _ => fun
  | [d1, d2] => { results := [.lit (.bool true)], args := [d1, d2] }
  | _ => none }
def slotChangesRow : OpenClaim := { program := "ytpchgbolambkcaagreatdoor", sum := "0c595cba6fc44688033ebe1eb3f5a41ee27fefb3f5ea3a5bd221f76e06716de6", func := "chatelaine/chatelainelaw25.SlotChanges", spec := "slotChanges", inPlace := ["internal/reflectlite.TypeOf", "internal/reflectlite.ValueOf", "(internal/reflectlite.Value).Type", "(internal/reflectlite.Value).IsNil", "(internal/reflectlite.Value).Elem", "(internal/reflectlite.Value).Set"], unfollowed := true, recurses := true, named := ["errors.errorType"], apart := false, laid := [("errors.errorType", laid_errors_errorType)] }
def SlotChangesSaid : Prop := slotChangesRow.holds Tryz.pinned (OpenSpec.ofChange slotChangesSpec)

/-- ITS FALSE NEIGHBOUR: 'it returns false'. Refute it at one input. -/
def slotChangesWrong : ChangeSpec := { name := "slotChanges", fn := fun _ => fun
  | [d1, d2] => { results := [.lit (.bool false)], args := [d1, d2] }
  | _ => none }
def SlotChangesWrongFalsely : Prop := slotChangesRow.holds Tryz.pinned (OpenSpec.ofChange slotChangesWrong)

/-- 'chatelainelaw25.SlotSaves': WHATEVER THE INPUT: true; the input reads as it did. -/
def slotSavesSpec : ChangeSpec := { name := "slotSaves", fn := fun _ => fun
  | [d1, d2, d3, d4, d5, d6] => { results := [.lit (.bool true)], args := [d1, d2, d3, d4, d5, d6] }
  | _ => none }
def slotSavesRow : OpenClaim := { program := "ytpchgbolambkcaagreatdoor", sum := "0c595cba6fc44688033ebe1eb3f5a41ee27fefb3f5ea3a5bd221f76e06716de6", func := "chatelaine/chatelainelaw25.SlotSaves", spec := "slotSaves", inPlace := ["internal/reflectlite.TypeOf", "internal/reflectlite.ValueOf", "(internal/reflectlite.Value).Type", "(internal/reflectlite.Value).IsNil", "(internal/reflectlite.Value).Elem", "(internal/reflectlite.Value).Set"], unfollowed := true, recurses := true, named := ["errors.errorType"], apart := false, laid := [("errors.errorType", laid_errors_errorType)] }
def SlotSavesSaid : Prop := slotSavesRow.holds Tryz.pinned (OpenSpec.ofChange slotSavesSpec)

/-- ITS FALSE NEIGHBOUR: 'it returns false'. Refute it at one input. -/
def slotSavesWrong : ChangeSpec := { name := "slotSaves", fn := fun _ => fun
  | [d1, d2, d3, d4, d5, d6] => { results := [.lit (.bool false)], args := [d1, d2, d3, d4, d5, d6] }
  | _ => none }
def SlotSavesWrongFalsely : Prop := slotSavesRow.holds Tryz.pinned (OpenSpec.ofChange slotSavesWrong)

/-- 'chatelainelaw25.SlotTorn': WHATEVER THE INPUT: true; the input reads as it did. -/
def slotTornSpec : ChangeSpec := { name := "slotTorn", fn := fun _ => fun
  | [d1, d2, d3, d4, d5] => { results := [.lit (.bool true)], args := [d1, d2, d3, d4, d5] }
  | _ => none }
def slotTornRow : OpenClaim := { program := "ytpchgbolambkcaagreatdoor", sum := "0c595cba6fc44688033ebe1eb3f5a41ee27fefb3f5ea3a5bd221f76e06716de6", func := "chatelaine/chatelainelaw25.SlotTorn", spec := "slotTorn", inPlace := ["internal/reflectlite.TypeOf", "internal/reflectlite.ValueOf", "(internal/reflectlite.Value).Type", "(internal/reflectlite.Value).IsNil", "(internal/reflectlite.Value).Elem", "(internal/reflectlite.Value).Set"], unfollowed := true, recurses := true, named := ["errors.errorType"], apart := false, laid := [("errors.errorType", laid_errors_errorType)] }
def SlotTornSaid : Prop := slotTornRow.holds Tryz.pinned (OpenSpec.ofChange slotTornSpec)

/-- ITS FALSE NEIGHBOUR: 'it returns false'. Refute it at one input. -/
def slotTornWrong : ChangeSpec := { name := "slotTorn", fn := fun _ => fun
  | [d1, d2, d3, d4, d5] => { results := [.lit (.bool false)], args := [d1, d2, d3, d4, d5] }
  | _ => none }
def SlotTornWrongFalsely : Prop := slotTornRow.holds Tryz.pinned (OpenSpec.ofChange slotTornWrong)

/-- 'chatelainelaw25.SlotReplays': WHATEVER THE INPUT: true; the input reads as it did. -/
def slotReplaysSpec : ChangeSpec := { name := "slotReplays", fn := fun _ => fun
  | [d1, d2, d3, d4, d5] => { results := [.lit (.bool true)], args := [d1, d2, d3, d4, d5] }
  | _ => none }
def slotReplaysRow : OpenClaim := { program := "ytpchgbolambkcaagreatdoor", sum := "0c595cba6fc44688033ebe1eb3f5a41ee27fefb3f5ea3a5bd221f76e06716de6", func := "chatelaine/chatelainelaw25.SlotReplays", spec := "slotReplays", inPlace := ["internal/reflectlite.TypeOf", "internal/reflectlite.ValueOf", "(internal/reflectlite.Value).Type", "(internal/reflectlite.Value).IsNil", "(internal/reflectlite.Value).Elem", "(internal/reflectlite.Value).Set"], unfollowed := true, recurses := true, named := ["errors.errorType"], apart := false, laid := [("errors.errorType", laid_errors_errorType)] }
def SlotReplaysSaid : Prop := slotReplaysRow.holds Tryz.pinned (OpenSpec.ofChange slotReplaysSpec)

/-- ITS FALSE NEIGHBOUR: 'it returns false'. Refute it at one input. -/
def slotReplaysWrong : ChangeSpec := { name := "slotReplays", fn := fun _ => fun
  | [d1, d2, d3, d4, d5] => { results := [.lit (.bool false)], args := [d1, d2, d3, d4, d5] }
  | _ => none }
def SlotReplaysWrongFalsely : Prop := slotReplaysRow.holds Tryz.pinned (OpenSpec.ofChange slotReplaysWrong)

/-- 'chatelainelaw25.SlotWipes': WHATEVER THE INPUT: true; the input reads as it did. -/
def slotWipesSpec : ChangeSpec := { name := "slotWipes", fn := fun _ => fun
  | [d1, d2, d3] => { results := [.lit (.bool true)], args := [d1, d2, d3] }
  | _ => none }
def slotWipesRow : OpenClaim := { program := "ytpchgbolambkcaagreatdoor", sum := "0c595cba6fc44688033ebe1eb3f5a41ee27fefb3f5ea3a5bd221f76e06716de6", func := "chatelaine/chatelainelaw25.SlotWipes", spec := "slotWipes", inPlace := ["internal/reflectlite.TypeOf", "internal/reflectlite.ValueOf", "(internal/reflectlite.Value).Type", "(internal/reflectlite.Value).IsNil", "(internal/reflectlite.Value).Elem", "(internal/reflectlite.Value).Set"], unfollowed := true, recurses := true, named := ["errors.errorType"], apart := false, laid := [("errors.errorType", laid_errors_errorType)] }
def SlotWipesSaid : Prop := slotWipesRow.holds Tryz.pinned (OpenSpec.ofChange slotWipesSpec)

/-- ITS FALSE NEIGHBOUR: 'it returns false'. Refute it at one input. -/
def slotWipesWrong : ChangeSpec := { name := "slotWipes", fn := fun _ => fun
  | [d1, d2, d3] => { results := [.lit (.bool false)], args := [d1, d2, d3] }
  | _ => none }
def SlotWipesWrongFalsely : Prop := slotWipesRow.holds Tryz.pinned (OpenSpec.ofChange slotWipesWrong)

/-- 'chatelainelaw25.SlotRows': WHATEVER THE INPUT: true; the input reads as it did. -/
def slotRowsSpec : ChangeSpec := { name := "slotRows", fn := fun _ => fun
  | [d1, d2] => { results := [.lit (.bool true)], args := [d1, d2] }
  | _ => none }
def slotRowsRow : OpenClaim := { program := "ytpchgbolambkcaagreatdoor", sum := "0c595cba6fc44688033ebe1eb3f5a41ee27fefb3f5ea3a5bd221f76e06716de6", func := "chatelaine/chatelainelaw25.SlotRows", spec := "slotRows", inPlace := ["internal/reflectlite.TypeOf", "internal/reflectlite.ValueOf", "(internal/reflectlite.Value).Type", "(internal/reflectlite.Value).IsNil", "(internal/reflectlite.Value).Elem", "(internal/reflectlite.Value).Set"], unfollowed := true, recurses := true, named := ["errors.errorType"], apart := false, laid := [("errors.errorType", laid_errors_errorType)] }
def SlotRowsSaid : Prop := slotRowsRow.holds Tryz.pinned (OpenSpec.ofChange slotRowsSpec)

/-- ITS FALSE NEIGHBOUR: 'it returns false'. Refute it at one input. -/
def slotRowsWrong : ChangeSpec := { name := "slotRows", fn := fun _ => fun
  | [d1, d2] => { results := [.lit (.bool false)], args := [d1, d2] }
  | _ => none }
def SlotRowsWrongFalsely : Prop := slotRowsRow.holds Tryz.pinned (OpenSpec.ofChange slotRowsWrong)

/- THE SECOND FORM. 'bulk': how many values and letters a reading holds, each counted each time it is reached (what is shared counts as often as it is met; a slice's spare places count too). A statement '..UptoSaid' is the law's where the arguments, and the package variables that the reading takes, are together of bulk at most 1048576: NARROWER than '..Said'. Prove '..Said' where nothing that the law and all that it calls make is longer than what came in: it says more and counts as full. Else prove '..UptoSaid'. A law counts once. -/
mutual
def uptoBulk {H : Type} : DataW H → Nat
  | .lit (.string bytes) => bytes.length + 1
  | .lit _ => 1
  | .nil => 1
  | .ptr d => uptoBulk d + 1
  | .slice elems spare => uptoBulkAll elems + uptoBulkAll spare + 1
  | .agg parts => uptoBulkAll parts + 1
  | .iface _ d => uptoBulk d + 1
  | .map entries => uptoBulkEntries entries + 1
  | .held _ => 1
def uptoBulkAll {H : Type} : List (DataW H) → Nat
  | [] => 0
  | d :: r => uptoBulk d + uptoBulkAll r
def uptoBulkEntries {H : Type} : List (Lit × DataW H) → Nat
  | [] => 0
  | x :: r => uptoBulkEntry x + uptoBulkEntries r
def uptoBulkEntry {H : Type} : Lit × DataW H → Nat
  | (.string bytes, d) => bytes.length + uptoBulk d + 1
  | (_, d) => uptoBulk d + 1
 end
def uptoSmall : (H : Type) → List (DataW H) → Bool := fun _ ds => decide (uptoBulkAll ds ≤ 1048576)
def OpenSpec.upto (s : _root_.Go.ChangeSpec) : _root_.Go.OpenSpec := { _root_.Go.OpenSpec.ofChange s with cond := some uptoSmall }

/-- 'chatelainelaw25.SlotChanges', WHERE WHAT IT READS IS OF BULK AT MOST 1048576: true; the input reads as it did. -/
def slotChangesUptoRow : OpenClaim := { program := "ytpchgbolambkcaagreatdoor", sum := "0c595cba6fc44688033ebe1eb3f5a41ee27fefb3f5ea3a5bd221f76e06716de6", func := "chatelaine/chatelainelaw25.SlotChanges", spec := "slotChanges", inPlace := ["internal/reflectlite.TypeOf", "internal/reflectlite.ValueOf", "(internal/reflectlite.Value).Type", "(internal/reflectlite.Value).IsNil", "(internal/reflectlite.Value).Elem", "(internal/reflectlite.Value).Set"], unfollowed := true, recurses := true, named := ["errors.errorType"], apart := false, laid := [("errors.errorType", laid_errors_errorType)], narrowed := true }
def SlotChangesUptoSaid : Prop := slotChangesUptoRow.holds Tryz.pinned (OpenSpec.upto slotChangesSpec)

/-- 'chatelainelaw25.SlotSaves', WHERE WHAT IT READS IS OF BULK AT MOST 1048576: true; the input reads as it did. -/
def slotSavesUptoRow : OpenClaim := { program := "ytpchgbolambkcaagreatdoor", sum := "0c595cba6fc44688033ebe1eb3f5a41ee27fefb3f5ea3a5bd221f76e06716de6", func := "chatelaine/chatelainelaw25.SlotSaves", spec := "slotSaves", inPlace := ["internal/reflectlite.TypeOf", "internal/reflectlite.ValueOf", "(internal/reflectlite.Value).Type", "(internal/reflectlite.Value).IsNil", "(internal/reflectlite.Value).Elem", "(internal/reflectlite.Value).Set"], unfollowed := true, recurses := true, named := ["errors.errorType"], apart := false, laid := [("errors.errorType", laid_errors_errorType)], narrowed := true }
def SlotSavesUptoSaid : Prop := slotSavesUptoRow.holds Tryz.pinned (OpenSpec.upto slotSavesSpec)

/-- 'chatelainelaw25.SlotTorn', WHERE WHAT IT READS IS OF BULK AT MOST 1048576: true; the input reads as it did. -/
def slotTornUptoRow : OpenClaim := { program := "ytpchgbolambkcaagreatdoor", sum := "0c595cba6fc44688033ebe1eb3f5a41ee27fefb3f5ea3a5bd221f76e06716de6", func := "chatelaine/chatelainelaw25.SlotTorn", spec := "slotTorn", inPlace := ["internal/reflectlite.TypeOf", "internal/reflectlite.ValueOf", "(internal/reflectlite.Value).Type", "(internal/reflectlite.Value).IsNil", "(internal/reflectlite.Value).Elem", "(internal/reflectlite.Value).Set"], unfollowed := true, recurses := true, named := ["errors.errorType"], apart := false, laid := [("errors.errorType", laid_errors_errorType)], narrowed := true }
def SlotTornUptoSaid : Prop := slotTornUptoRow.holds Tryz.pinned (OpenSpec.upto slotTornSpec)

/-- 'chatelainelaw25.SlotReplays', WHERE WHAT IT READS IS OF BULK AT MOST 1048576: true; the input reads as it did. -/
def slotReplaysUptoRow : OpenClaim := { program := "ytpchgbolambkcaagreatdoor", sum := "0c595cba6fc44688033ebe1eb3f5a41ee27fefb3f5ea3a5bd221f76e06716de6", func := "chatelaine/chatelainelaw25.SlotReplays", spec := "slotReplays", inPlace := ["internal/reflectlite.TypeOf", "internal/reflectlite.ValueOf", "(internal/reflectlite.Value).Type", "(internal/reflectlite.Value).IsNil", "(internal/reflectlite.Value).Elem", "(internal/reflectlite.Value).Set"], unfollowed := true, recurses := true, named := ["errors.errorType"], apart := false, laid := [("errors.errorType", laid_errors_errorType)], narrowed := true }
def SlotReplaysUptoSaid : Prop := slotReplaysUptoRow.holds Tryz.pinned (OpenSpec.upto slotReplaysSpec)

/-- 'chatelainelaw25.SlotWipes', WHERE WHAT IT READS IS OF BULK AT MOST 1048576: true; the input reads as it did. -/
def slotWipesUptoRow : OpenClaim := { program := "ytpchgbolambkcaagreatdoor", sum := "0c595cba6fc44688033ebe1eb3f5a41ee27fefb3f5ea3a5bd221f76e06716de6", func := "chatelaine/chatelainelaw25.SlotWipes", spec := "slotWipes", inPlace := ["internal/reflectlite.TypeOf", "internal/reflectlite.ValueOf", "(internal/reflectlite.Value).Type", "(internal/reflectlite.Value).IsNil", "(internal/reflectlite.Value).Elem", "(internal/reflectlite.Value).Set"], unfollowed := true, recurses := true, named := ["errors.errorType"], apart := false, laid := [("errors.errorType", laid_errors_errorType)], narrowed := true }
def SlotWipesUptoSaid : Prop := slotWipesUptoRow.holds Tryz.pinned (OpenSpec.upto slotWipesSpec)

/-- 'chatelainelaw25.SlotRows', WHERE WHAT IT READS IS OF BULK AT MOST 1048576: true; the input reads as it did. -/
def slotRowsUptoRow : OpenClaim := { program := "ytpchgbolambkcaagreatdoor", sum := "0c595cba6fc44688033ebe1eb3f5a41ee27fefb3f5ea3a5bd221f76e06716de6", func := "chatelaine/chatelainelaw25.SlotRows", spec := "slotRows", inPlace := ["internal/reflectlite.TypeOf", "internal/reflectlite.ValueOf", "(internal/reflectlite.Value).Type", "(internal/reflectlite.Value).IsNil", "(internal/reflectlite.Value).Elem", "(internal/reflectlite.Value).Set"], unfollowed := true, recurses := true, named := ["errors.errorType"], apart := false, laid := [("errors.errorType", laid_errors_errorType)], narrowed := true }
def SlotRowsUptoSaid : Prop := slotRowsUptoRow.holds Tryz.pinned (OpenSpec.upto slotRowsSpec)

end Rows
end Go.Proofs.YtpchgbolambkcaaGreatDoor
