/-
  NARROWER THAN 'FOR EVERY INPUT', by the rows' own cells (each row's printed sentence says how): ApplyOnce: laid · ApplyTicks: laid · ApplyApart: laid · ApplyTells: laid · ApplyScript: laid.
  DERIVED. THE GIVEN ROWS OF THIS SEAT. 5 by the template 'for every input the law returns true; each argument reads behind the call as it read before'; 0 by the template 'total and deterministic' (their statements: YtgjoehgomjgckaaGreatDoorTotals.lean).
  GIVEN WITH THE SEED: the statements are not yours to turn. If you find one false, say at which input.
  Laid BY PROGRAM, IN A SANDBOX (cutbox-rows.mjs): the forced cells as the released guide's own fill.sh prints them over the translation 303f7f60660ec83b… (all of the seat's roots in one cut). By AI agents, Wed Nov 11 2026. No macro, syntax, notation, axiom, sorry.
-/
import Derived.Test.YtgjoehgomjgckaaGreatDoorChecked
import GoSem.Claim
import GoSem.ClaimJoined
import GoSem.ClaimMapViews
import Derived.JoinedTies
import Derived.KernelRfl
namespace Go.Proofs.YtgjoehgomjgckaaGreatDoor
/- THE CELL 'sum', in the pinned program and in every row, IS THE sha256 OF THE DUMP (.gsa) THAT YtgjoehgomjgckaaGreatDoorProg.lean LOADS. Nothing in Lean hashes anything: it is a label: what it is worth is what the hold of that sum in a sandbox is worth. -/
noncomputable def Tryz.pinned : Pinned := { name := "ytgjoehgomjgckaagreatdoor", sum := "303f7f60660ec83b8018f66f696438dc731d79252aba29266d64e90f4be25df5", checked := Tryz.checked }
namespace Rows
def none {H : Type} : Left H := { results := [], args := [] }

/- WHAT THE LISTED PACKAGE-LEVEL VARIABLES READ AS WHEN THE CALL BEGINS. Each datum BY PROGRAM (the guide's laid-datum.mjs) off the statement by which the dump's own 'gosem.cut.vars' lays the variable. In a bare row this is a premise. The card (YtgjoehgomjgckaaGreatDoorCards.lean) ties it to the program's text. -/
def laid_errors_errorType {H : Type} : DataW H := .iface "internal/reflectlite.rtype" (.agg [.ptr (.lit (.string [101, 114, 114, 111, 114]))])

/-- 'chatelainelaw21.ApplyOnce': WHATEVER THE INPUT: true; the input reads as it did. -/
def applyOnceSpec : ChangeSpec := { name := "applyOnce", fn := fun _ => fun
  | [d1, d2] => { results := [.lit (.bool true)], args := [d1, d2] }
  | _ => none }
def applyOnceRow : OpenClaim := { program := "ytgjoehgomjgckaagreatdoor", sum := "303f7f60660ec83b8018f66f696438dc731d79252aba29266d64e90f4be25df5", func := "chatelaine/chatelainelaw21.ApplyOnce", spec := "applyOnce", inPlace := ["internal/reflectlite.TypeOf", "internal/reflectlite.ValueOf", "(internal/reflectlite.Value).Type", "(internal/reflectlite.Value).IsNil", "(internal/reflectlite.Value).Elem", "(internal/reflectlite.Value).Set"], unfollowed := true, recurses := true, named := ["errors.errorType"], apart := false, laid := [("errors.errorType", laid_errors_errorType)] }
def ApplyOnceSaid : Prop := applyOnceRow.holds Tryz.pinned (OpenSpec.ofChange applyOnceSpec)

/-- ITS FALSE NEIGHBOUR: 'it returns false'. Refute it at one input. -/
def applyOnceWrong : ChangeSpec := { name := "applyOnce", fn := fun _ => fun
  | [d1, d2] => { results := [.lit (.bool false)], args := [d1, d2] }
  | _ => none }
def ApplyOnceWrongFalsely : Prop := applyOnceRow.holds Tryz.pinned (OpenSpec.ofChange applyOnceWrong)

/-- 'chatelainelaw21.ApplyTicks': WHATEVER THE INPUT: true; the input reads as it did. -/
def applyTicksSpec : ChangeSpec := { name := "applyTicks", fn := fun _ => fun
  | [d1, d2, d3] => { results := [.lit (.bool true)], args := [d1, d2, d3] }
  | _ => none }
def applyTicksRow : OpenClaim := { program := "ytgjoehgomjgckaagreatdoor", sum := "303f7f60660ec83b8018f66f696438dc731d79252aba29266d64e90f4be25df5", func := "chatelaine/chatelainelaw21.ApplyTicks", spec := "applyTicks", inPlace := ["internal/reflectlite.TypeOf", "internal/reflectlite.ValueOf", "(internal/reflectlite.Value).Type", "(internal/reflectlite.Value).IsNil", "(internal/reflectlite.Value).Elem", "(internal/reflectlite.Value).Set"], unfollowed := true, recurses := true, named := ["errors.errorType"], apart := false, laid := [("errors.errorType", laid_errors_errorType)] }
def ApplyTicksSaid : Prop := applyTicksRow.holds Tryz.pinned (OpenSpec.ofChange applyTicksSpec)

/-- ITS FALSE NEIGHBOUR: 'it returns false'. Refute it at one input. -/
def applyTicksWrong : ChangeSpec := { name := "applyTicks", fn := fun _ => fun
  | [d1, d2, d3] => { results := [.lit (.bool false)], args := [d1, d2, d3] }
  | _ => none }
def ApplyTicksWrongFalsely : Prop := applyTicksRow.holds Tryz.pinned (OpenSpec.ofChange applyTicksWrong)

/-- 'chatelainelaw21.ApplyApart': WHATEVER THE INPUT: true; the input reads as it did. -/
def applyApartSpec : ChangeSpec := { name := "applyApart", fn := fun _ => fun
  | [d1, d2] => { results := [.lit (.bool true)], args := [d1, d2] }
  | _ => none }
def applyApartRow : OpenClaim := { program := "ytgjoehgomjgckaagreatdoor", sum := "303f7f60660ec83b8018f66f696438dc731d79252aba29266d64e90f4be25df5", func := "chatelaine/chatelainelaw21.ApplyApart", spec := "applyApart", inPlace := ["internal/reflectlite.TypeOf", "internal/reflectlite.ValueOf", "(internal/reflectlite.Value).Type", "(internal/reflectlite.Value).IsNil", "(internal/reflectlite.Value).Elem", "(internal/reflectlite.Value).Set"], unfollowed := true, recurses := true, named := ["errors.errorType"], apart := false, laid := [("errors.errorType", laid_errors_errorType)] }
def ApplyApartSaid : Prop := applyApartRow.holds Tryz.pinned (OpenSpec.ofChange applyApartSpec)

/-- ITS FALSE NEIGHBOUR: 'it returns false'. Refute it at one input. -/
def applyApartWrong : ChangeSpec := { name := "applyApart", fn := fun _ => fun
  | [d1, d2] => { results := [.lit (.bool false)], args := [d1, d2] }
  | _ => none }
def ApplyApartWrongFalsely : Prop := applyApartRow.holds Tryz.pinned (OpenSpec.ofChange applyApartWrong)

/-- 'chatelainelaw21.ApplyTells': WHATEVER THE INPUT: true; the input reads as it did. -/
def applyTellsSpec : ChangeSpec := { name := "applyTells", fn := fun _ => fun
  | [d1, d2] => { results := [.lit (.bool true)], args := [d1, d2] }
  | _ => none }
def applyTellsRow : OpenClaim := { program := "ytgjoehgomjgckaagreatdoor", sum := "303f7f60660ec83b8018f66f696438dc731d79252aba29266d64e90f4be25df5", func := "chatelaine/chatelainelaw21.ApplyTells", spec := "applyTells", inPlace := ["internal/reflectlite.TypeOf", "internal/reflectlite.ValueOf", "(internal/reflectlite.Value).Type", "(internal/reflectlite.Value).IsNil", "(internal/reflectlite.Value).Elem", "(internal/reflectlite.Value).Set"], unfollowed := true, recurses := true, named := ["errors.errorType"], apart := false, laid := [("errors.errorType", laid_errors_errorType)] }
def ApplyTellsSaid : Prop := applyTellsRow.holds Tryz.pinned (OpenSpec.ofChange applyTellsSpec)

/-- ITS FALSE NEIGHBOUR: 'it returns false'. Refute it at one input. -/
def applyTellsWrong : ChangeSpec := { name := "applyTells", fn := fun _ => fun
  | [d1, d2] => { results := [.lit (.bool false)], args := [d1, d2] }
  | _ => none }
def ApplyTellsWrongFalsely : Prop := applyTellsRow.holds Tryz.pinned (OpenSpec.ofChange applyTellsWrong)

/-- 'chatelainelaw21.ApplyScript': WHATEVER THE INPUT: true; the input reads as it did. -/
def applyScriptSpec : ChangeSpec := { name := "applyScript", fn := fun _ => fun
  | [d] => { results := [.lit (.bool true)], args := [d] }
  | _ => none }
def applyScriptRow : OpenClaim := { program := "ytgjoehgomjgckaagreatdoor", sum := "303f7f60660ec83b8018f66f696438dc731d79252aba29266d64e90f4be25df5", func := "chatelaine/chatelainelaw21.ApplyScript", spec := "applyScript", inPlace := ["internal/reflectlite.TypeOf", "internal/reflectlite.ValueOf", "(internal/reflectlite.Value).Type", "(internal/reflectlite.Value).IsNil", "(internal/reflectlite.Value).Elem", "(internal/reflectlite.Value).Set"], unfollowed := true, recurses := true, named := ["errors.errorType"], apart := false, laid := [("errors.errorType", laid_errors_errorType)] }
def ApplyScriptSaid : Prop := applyScriptRow.holds Tryz.pinned (OpenSpec.ofChange applyScriptSpec)

/-- ITS FALSE NEIGHBOUR: 'it returns false'. Refute it at one input. -/
def applyScriptWrong : ChangeSpec := { name := "applyScript", fn := fun _ => fun
  | [d] => { results := [.lit (.bool false)], args := [d] }
  | _ => none }
def ApplyScriptWrongFalsely : Prop := applyScriptRow.holds Tryz.pinned (OpenSpec.ofChange applyScriptWrong)

/- THE SECOND FORM. 'bulk': how many values and letters a reading holds, each counted each time it is reached (what is shared counts as often as it is met; a slice's spare places count too). A statement '..UptoSaid' is the law's where the arguments, and the package variables that the reading takes, are together of bulk at most 1048576: NARROWER than '..Said'. Prove '..Said' where nothing that the law and all that it calls make is longer than what came in: it says more and counts as full. Else prove '..UptoSaid'. A law counts once. -/
mutual
def uptoBulk {H : Type} : DataW H → Nat
  | .lit (.string bytes) => bytes.length + 1
  | .lit _ => 1
  | .nil => 1
  | .ptr d => uptoBulk d + 1
  | .slice elems spare => uptoBulkAll elems + uptoBulkAll spare + 1
  | .agg parts => uptoBulkAll parts + 1
  | .iface _ d => uptoBulk d + 1
  | .map entries => uptoBulkEntries entries + 1
  | .held _ => 1
def uptoBulkAll {H : Type} : List (DataW H) → Nat
  | [] => 0
  | d :: r => uptoBulk d + uptoBulkAll r
def uptoBulkEntries {H : Type} : List (Lit × DataW H) → Nat
  | [] => 0
  | x :: r => uptoBulkEntry x + uptoBulkEntries r
def uptoBulkEntry {H : Type} : Lit × DataW H → Nat
  | (.string bytes, d) => bytes.length + uptoBulk d + 1
  | (_, d) => uptoBulk d + 1
 end
def uptoSmall : (H : Type) → List (DataW H) → Bool := fun _ ds => decide (uptoBulkAll ds ≤ 1048576)
def OpenSpec.upto (s : _root_.Go.ChangeSpec) : _root_.Go.OpenSpec := { _root_.Go.OpenSpec.ofChange s with cond := some uptoSmall }

/-- 'chatelainelaw21.ApplyOnce', WHERE WHAT IT READS IS OF BULK AT MOST 1048576: true; the input reads as it did. -/
def applyOnceUptoRow : OpenClaim := { program := "ytgjoehgomjgckaagreatdoor", sum := "303f7f60660ec83b8018f66f696438dc731d79252aba29266d64e90f4be25df5", func := "chatelaine/chatelainelaw21.ApplyOnce", spec := "applyOnce", inPlace := ["internal/reflectlite.TypeOf", "internal/reflectlite.ValueOf", "(internal/reflectlite.Value).Type", "(internal/reflectlite.Value).IsNil", "(internal/reflectlite.Value).Elem", "(internal/reflectlite.Value).Set"], unfollowed := true, recurses := true, named := ["errors.errorType"], apart := false, laid := [("errors.errorType", laid_errors_errorType)], narrowed := true }
def ApplyOnceUptoSaid : Prop := applyOnceUptoRow.holds Tryz.pinned (OpenSpec.upto applyOnceSpec)

/-- 'chatelainelaw21.ApplyTicks', WHERE WHAT IT READS IS OF BULK AT MOST 1048576: true; the input reads as it did. -/
def applyTicksUptoRow : OpenClaim := { program := "ytgjoehgomjgckaagreatdoor", sum := "303f7f60660ec83b8018f66f696438dc731d79252aba29266d64e90f4be25df5", func := "chatelaine/chatelainelaw21.ApplyTicks", spec := "applyTicks", inPlace := ["internal/reflectlite.TypeOf", "internal/reflectlite.ValueOf", "(internal/reflectlite.Value).Type", "(internal/reflectlite.Value).IsNil", "(internal/reflectlite.Value).Elem", "(internal/reflectlite.Value).Set"], unfollowed := true, recurses := true, named := ["errors.errorType"], apart := false, laid := [("errors.errorType", laid_errors_errorType)], narrowed := true }
def ApplyTicksUptoSaid : Prop := applyTicksUptoRow.holds Tryz.pinned (OpenSpec.upto applyTicksSpec)

/-- 'chatelainelaw21.ApplyApart', WHERE WHAT IT READS IS OF BULK AT MOST 1048576: true; the input reads as it did. -/
def applyApartUptoRow : OpenClaim := { program := "ytgjoehgomjgckaagreatdoor", sum := "303f7f60660ec83b8018f66f696438dc731d79252aba29266d64e90f4be25df5", func := "chatelaine/chatelainelaw21.ApplyApart", spec := "applyApart", inPlace := ["internal/reflectlite.TypeOf", "internal/reflectlite.ValueOf", "(internal/reflectlite.Value).Type", "(internal/reflectlite.Value).IsNil", "(internal/reflectlite.Value).Elem", "(internal/reflectlite.Value).Set"], unfollowed := true, recurses := true, named := ["errors.errorType"], apart := false, laid := [("errors.errorType", laid_errors_errorType)], narrowed := true }
def ApplyApartUptoSaid : Prop := applyApartUptoRow.holds Tryz.pinned (OpenSpec.upto applyApartSpec)

/-- 'chatelainelaw21.ApplyTells', WHERE WHAT IT READS IS OF BULK AT MOST 1048576: true; the input reads as it did. -/
def applyTellsUptoRow : OpenClaim := { program := "ytgjoehgomjgckaagreatdoor", sum := "303f7f60660ec83b8018f66f696438dc731d79252aba29266d64e90f4be25df5", func := "chatelaine/chatelainelaw21.ApplyTells", spec := "applyTells", inPlace := ["internal/reflectlite.TypeOf", "internal/reflectlite.ValueOf", "(internal/reflectlite.Value).Type", "(internal/reflectlite.Value).IsNil", "(internal/reflectlite.Value).Elem", "(internal/reflectlite.Value).Set"], unfollowed := true, recurses := true, named := ["errors.errorType"], apart := false, laid := [("errors.errorType", laid_errors_errorType)], narrowed := true }
def ApplyTellsUptoSaid : Prop := applyTellsUptoRow.holds Tryz.pinned (OpenSpec.upto applyTellsSpec)

/-- 'chatelainelaw21.ApplyScript', WHERE WHAT IT READS IS OF BULK AT MOST 1048576: true; the input reads as it did. -/
def applyScriptUptoRow : OpenClaim := { program := "ytgjoehgomjgckaagreatdoor", sum := "303f7f60660ec83b8018f66f696438dc731d79252aba29266d64e90f4be25df5", func := "chatelaine/chatelainelaw21.ApplyScript", spec := "applyScript", inPlace := ["internal/reflectlite.TypeOf", "internal/reflectlite.ValueOf", "(internal/reflectlite.Value).Type", "(internal/reflectlite.Value).IsNil", "(internal/reflectlite.Value).Elem", "(internal/reflectlite.Value).Set"], unfollowed := true, recurses := true, named := ["errors.errorType"], apart := false, laid := [("errors.errorType", laid_errors_errorType)], narrowed := true }
def ApplyScriptUptoSaid : Prop := applyScriptUptoRow.holds Tryz.pinned (OpenSpec.upto applyScriptSpec)

end Rows
end Go.Proofs.YtgjoehgomjgckaaGreatDoor
