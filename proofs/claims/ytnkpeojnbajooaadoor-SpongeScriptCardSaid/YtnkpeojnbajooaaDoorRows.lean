/-
  NARROWER THAN 'FOR EVERY INPUT', by the rows' own cells (each row's printed sentence says how): SpongeScript: laid · SpongeNone: laid · SpongeSame: laid · SpongeTells: laid · SpongeBegins: laid.
  DERIVED. THE GIVEN ROWS OF THIS SEAT. 5 by the template 'for every input the law returns true; each argument reads behind the call as it read before'; 0 by the template 'total and deterministic' (their statements: YtnkpeojnbajooaaDoorTotals.lean).
  GIVEN WITH THE SEED: the statements are not yours to turn. If you find one false, say at which input.
  Laid BY PROGRAM, IN A SANDBOX (cutbox-rows.mjs): the forced cells as the released guide's own fill.sh prints them over the translation da48d78107ce3751… (all of the seat's roots in one cut). By AI agents, Wed Nov 11 2026. No macro, syntax, notation, axiom, sorry.
-/
import Derived.Test.YtnkpeojnbajooaaDoorChecked
import GoSem.Claim
import GoSem.ClaimJoined
import GoSem.ClaimMapViews
import Derived.JoinedTies
import Derived.KernelRfl
namespace Go.Proofs.YtnkpeojnbajooaaDoor
/- THE CELL 'sum', in the pinned program and in every row, IS THE sha256 OF THE DUMP (.gsa) THAT YtnkpeojnbajooaaDoorProg.lean LOADS. Nothing in Lean hashes anything: it is a label: what it is worth is what the hold of that sum in a sandbox is worth. -/
noncomputable def Tryd.pinned : Pinned := { name := "ytnkpeojnbajooaadoor", sum := "da48d78107ce375143ed5d498d4f347d1a008d3d9704247a19c6ea608d5dac26", checked := Tryd.checked }
namespace Rows
def none {H : Type} : Left H := { results := [], args := [] }

/- WHAT THE LISTED PACKAGE-LEVEL VARIABLES READ AS WHEN THE CALL BEGINS. Each datum BY PROGRAM (the guide's laid-datum.mjs) off the statement by which the dump's own 'gosem.cut.vars' lays the variable. In a bare row this is a premise. The card (YtnkpeojnbajooaaDoorCards.lean) ties it to the program's text. -/
def laid_errors_errorType {H : Type} : DataW H := .iface "internal/reflectlite.rtype" (.agg [.ptr (.lit (.string [101, 114, 114, 111, 114]))])

/-- 'chatelainelaw2.SpongeScript': WHATEVER THE INPUT: true; the input reads as it did. -/
def spongeScriptSpec : ChangeSpec := { name := "spongeScript", fn := fun _ => fun
  | [d1, d2, d3, d4] => { results := [.lit (.bool true)], args := [d1, d2, d3, d4] }
  | _ => none }
def spongeScriptRow : OpenClaim := { program := "ytnkpeojnbajooaadoor", sum := "da48d78107ce375143ed5d498d4f347d1a008d3d9704247a19c6ea608d5dac26", func := "chatelaine/chatelainelaw2.SpongeScript", spec := "spongeScript", inPlace := ["internal/reflectlite.ValueOf", "(internal/reflectlite.Value).Type", "(internal/reflectlite.Value).IsNil", "internal/reflectlite.TypeOf", "(internal/reflectlite.Value).Elem", "(internal/reflectlite.Value).Set"], unfollowed := true, recurses := true, named := ["errors.errorType"], apart := false, laid := [("errors.errorType", laid_errors_errorType)] }
def SpongeScriptSaid : Prop := spongeScriptRow.holds Tryd.pinned (OpenSpec.ofChange spongeScriptSpec)

/-- ITS FALSE NEIGHBOUR: 'it returns false'. Refute it at one input. -/
def spongeScriptWrong : ChangeSpec := { name := "spongeScript", fn := fun _ => fun
  | [d1, d2, d3, d4] => { results := [.lit (.bool false)], args := [d1, d2, d3, d4] }
  | _ => none }
def SpongeScriptWrongFalsely : Prop := spongeScriptRow.holds Tryd.pinned (OpenSpec.ofChange spongeScriptWrong)

/-- 'chatelainelaw2.SpongeNone': WHATEVER THE INPUT: true; the input reads as it did. -/
def spongeNoneSpec : ChangeSpec := { name := "spongeNone", fn := fun _ => fun
  | [d] => { results := [.lit (.bool true)], args := [d] }
  | _ => none }
def spongeNoneRow : OpenClaim := { program := "ytnkpeojnbajooaadoor", sum := "da48d78107ce375143ed5d498d4f347d1a008d3d9704247a19c6ea608d5dac26", func := "chatelaine/chatelainelaw2.SpongeNone", spec := "spongeNone", inPlace := ["internal/reflectlite.ValueOf", "(internal/reflectlite.Value).Type", "(internal/reflectlite.Value).IsNil", "internal/reflectlite.TypeOf", "(internal/reflectlite.Value).Elem", "(internal/reflectlite.Value).Set"], unfollowed := true, recurses := true, named := ["errors.errorType"], apart := false, laid := [("errors.errorType", laid_errors_errorType)] }
def SpongeNoneSaid : Prop := spongeNoneRow.holds Tryd.pinned (OpenSpec.ofChange spongeNoneSpec)

/-- ITS FALSE NEIGHBOUR: 'it returns false'. Refute it at one input. -/
def spongeNoneWrong : ChangeSpec := { name := "spongeNone", fn := fun _ => fun
  | [d] => { results := [.lit (.bool false)], args := [d] }
  | _ => none }
def SpongeNoneWrongFalsely : Prop := spongeNoneRow.holds Tryd.pinned (OpenSpec.ofChange spongeNoneWrong)

/-- 'chatelainelaw2.SpongeSame': WHATEVER THE INPUT: true; the input reads as it did. -/
def spongeSameSpec : ChangeSpec := { name := "spongeSame", fn := fun _ => fun
  | [d1, d2, d3, d4, d5, d6] => { results := [.lit (.bool true)], args := [d1, d2, d3, d4, d5, d6] }
  | _ => none }
def spongeSameRow : OpenClaim := { program := "ytnkpeojnbajooaadoor", sum := "da48d78107ce375143ed5d498d4f347d1a008d3d9704247a19c6ea608d5dac26", func := "chatelaine/chatelainelaw2.SpongeSame", spec := "spongeSame", inPlace := ["internal/reflectlite.ValueOf", "(internal/reflectlite.Value).Type", "(internal/reflectlite.Value).IsNil", "internal/reflectlite.TypeOf", "(internal/reflectlite.Value).Elem", "(internal/reflectlite.Value).Set"], unfollowed := true, recurses := true, named := ["errors.errorType"], apart := false, laid := [("errors.errorType", laid_errors_errorType)] }
def SpongeSameSaid : Prop := spongeSameRow.holds Tryd.pinned (OpenSpec.ofChange spongeSameSpec)

/-- ITS FALSE NEIGHBOUR: 'it returns false'. Refute it at one input. -/
def spongeSameWrong : ChangeSpec := { name := "spongeSame", fn := fun _ => fun
  | [d1, d2, d3, d4, d5, d6] => { results := [.lit (.bool false)], args := [d1, d2, d3, d4, d5, d6] }
  | _ => none }
def SpongeSameWrongFalsely : Prop := spongeSameRow.holds Tryd.pinned (OpenSpec.ofChange spongeSameWrong)

/-- 'chatelainelaw2.SpongeTells': WHATEVER THE INPUT: true; the input reads as it did. -/
def spongeTellsSpec : ChangeSpec := { name := "spongeTells", fn := fun _ => fun
  | [d1, d2] => { results := [.lit (.bool true)], args := [d1, d2] }
  | _ => none }
def spongeTellsRow : OpenClaim := { program := "ytnkpeojnbajooaadoor", sum := "da48d78107ce375143ed5d498d4f347d1a008d3d9704247a19c6ea608d5dac26", func := "chatelaine/chatelainelaw2.SpongeTells", spec := "spongeTells", inPlace := ["internal/reflectlite.ValueOf", "(internal/reflectlite.Value).Type", "(internal/reflectlite.Value).IsNil", "internal/reflectlite.TypeOf", "(internal/reflectlite.Value).Elem", "(internal/reflectlite.Value).Set"], unfollowed := true, recurses := true, named := ["errors.errorType"], apart := false, laid := [("errors.errorType", laid_errors_errorType)] }
def SpongeTellsSaid : Prop := spongeTellsRow.holds Tryd.pinned (OpenSpec.ofChange spongeTellsSpec)

/-- ITS FALSE NEIGHBOUR: 'it returns false'. Refute it at one input. -/
def spongeTellsWrong : ChangeSpec := { name := "spongeTells", fn := fun _ => fun
  | [d1, d2] => { results := [.lit (.bool false)], args := [d1, d2] }
  | _ => none }
def SpongeTellsWrongFalsely : Prop := spongeTellsRow.holds Tryd.pinned (OpenSpec.ofChange spongeTellsWrong)

/-- 'chatelainelaw2.SpongeBegins': WHATEVER THE INPUT: true; the input reads as it did. -/
def spongeBeginsSpec : ChangeSpec := { name := "spongeBegins", fn := fun _ => fun
  | [d1, d2, d3] => { results := [.lit (.bool true)], args := [d1, d2, d3] }
  | _ => none }
def spongeBeginsRow : OpenClaim := { program := "ytnkpeojnbajooaadoor", sum := "da48d78107ce375143ed5d498d4f347d1a008d3d9704247a19c6ea608d5dac26", func := "chatelaine/chatelainelaw2.SpongeBegins", spec := "spongeBegins", inPlace := ["internal/reflectlite.ValueOf", "(internal/reflectlite.Value).Type", "(internal/reflectlite.Value).IsNil", "internal/reflectlite.TypeOf", "(internal/reflectlite.Value).Elem", "(internal/reflectlite.Value).Set"], unfollowed := true, recurses := true, named := ["errors.errorType"], apart := false, laid := [("errors.errorType", laid_errors_errorType)] }
def SpongeBeginsSaid : Prop := spongeBeginsRow.holds Tryd.pinned (OpenSpec.ofChange spongeBeginsSpec)

/-- ITS FALSE NEIGHBOUR: 'it returns false'. Refute it at one input. -/
def spongeBeginsWrong : ChangeSpec := { name := "spongeBegins", fn := fun _ => fun
  | [d1, d2, d3] => { results := [.lit (.bool false)], args := [d1, d2, d3] }
  | _ => none }
def SpongeBeginsWrongFalsely : Prop := spongeBeginsRow.holds Tryd.pinned (OpenSpec.ofChange spongeBeginsWrong)

/- THE SECOND FORM. 'bulk': how many values and letters a reading holds, each counted each time it is reached (what is shared counts as often as it is met; a slice's spare places count too). A statement '..UptoSaid' is the law's where the arguments, and the package variables that the reading takes, are together of bulk at most 1048576: NARROWER than '..Said'. Prove '..Said' where nothing that the law and all that it calls make is longer than what came in: it says more and counts as full. Else prove '..UptoSaid'. A law counts once. -/
mutual
def uptoBulk {H : Type} : DataW H → Nat
  | .lit (.string bytes) => bytes.length + 1
  | .lit _ => 1
  | .nil => 1
  | .ptr d => uptoBulk d + 1
  | .slice elems spare => uptoBulkAll elems + uptoBulkAll spare + 1
  | .agg parts => uptoBulkAll parts + 1
  | .iface _ d => uptoBulk d + 1
  | .map entries => uptoBulkEntries entries + 1
  | .held _ => 1
def uptoBulkAll {H : Type} : List (DataW H) → Nat
  | [] => 0
  | d :: r => uptoBulk d + uptoBulkAll r
def uptoBulkEntries {H : Type} : List (Lit × DataW H) → Nat
  | [] => 0
  | x :: r => uptoBulkEntry x + uptoBulkEntries r
def uptoBulkEntry {H : Type} : Lit × DataW H → Nat
  | (.string bytes, d) => bytes.length + uptoBulk d + 1
  | (_, d) => uptoBulk d + 1
 end
def uptoSmall : (H : Type) → List (DataW H) → Bool := fun _ ds => decide (uptoBulkAll ds ≤ 1048576)
def OpenSpec.upto (s : _root_.Go.ChangeSpec) : _root_.Go.OpenSpec := { _root_.Go.OpenSpec.ofChange s with cond := some uptoSmall }

/-- 'chatelainelaw2.SpongeScript', WHERE WHAT IT READS IS OF BULK AT MOST 1048576: true; the input reads as it did. -/
def spongeScriptUptoRow : OpenClaim := { program := "ytnkpeojnbajooaadoor", sum := "da48d78107ce375143ed5d498d4f347d1a008d3d9704247a19c6ea608d5dac26", func := "chatelaine/chatelainelaw2.SpongeScript", spec := "spongeScript", inPlace := ["internal/reflectlite.ValueOf", "(internal/reflectlite.Value).Type", "(internal/reflectlite.Value).IsNil", "internal/reflectlite.TypeOf", "(internal/reflectlite.Value).Elem", "(internal/reflectlite.Value).Set"], unfollowed := true, recurses := true, named := ["errors.errorType"], apart := false, laid := [("errors.errorType", laid_errors_errorType)], narrowed := true }
def SpongeScriptUptoSaid : Prop := spongeScriptUptoRow.holds Tryd.pinned (OpenSpec.upto spongeScriptSpec)

/-- 'chatelainelaw2.SpongeNone', WHERE WHAT IT READS IS OF BULK AT MOST 1048576: true; the input reads as it did. -/
def spongeNoneUptoRow : OpenClaim := { program := "ytnkpeojnbajooaadoor", sum := "da48d78107ce375143ed5d498d4f347d1a008d3d9704247a19c6ea608d5dac26", func := "chatelaine/chatelainelaw2.SpongeNone", spec := "spongeNone", inPlace := ["internal/reflectlite.ValueOf", "(internal/reflectlite.Value).Type", "(internal/reflectlite.Value).IsNil", "internal/reflectlite.TypeOf", "(internal/reflectlite.Value).Elem", "(internal/reflectlite.Value).Set"], unfollowed := true, recurses := true, named := ["errors.errorType"], apart := false, laid := [("errors.errorType", laid_errors_errorType)], narrowed := true }
def SpongeNoneUptoSaid : Prop := spongeNoneUptoRow.holds Tryd.pinned (OpenSpec.upto spongeNoneSpec)

/-- 'chatelainelaw2.SpongeSame', WHERE WHAT IT READS IS OF BULK AT MOST 1048576: true; the input reads as it did. -/
def spongeSameUptoRow : OpenClaim := { program := "ytnkpeojnbajooaadoor", sum := "da48d78107ce375143ed5d498d4f347d1a008d3d9704247a19c6ea608d5dac26", func := "chatelaine/chatelainelaw2.SpongeSame", spec := "spongeSame", inPlace := ["internal/reflectlite.ValueOf", "(internal/reflectlite.Value).Type", "(internal/reflectlite.Value).IsNil", "internal/reflectlite.TypeOf", "(internal/reflectlite.Value).Elem", "(internal/reflectlite.Value).Set"], unfollowed := true, recurses := true, named := ["errors.errorType"], apart := false, laid := [("errors.errorType", laid_errors_errorType)], narrowed := true }
def SpongeSameUptoSaid : Prop := spongeSameUptoRow.holds Tryd.pinned (OpenSpec.upto spongeSameSpec)

/-- 'chatelainelaw2.SpongeTells', WHERE WHAT IT READS IS OF BULK AT MOST 1048576: true; the input reads as it did. -/
def spongeTellsUptoRow : OpenClaim := { program := "ytnkpeojnbajooaadoor", sum := "da48d78107ce375143ed5d498d4f347d1a008d3d9704247a19c6ea608d5dac26", func := "chatelaine/chatelainelaw2.SpongeTells", spec := "spongeTells", inPlace := ["internal/reflectlite.ValueOf", "(internal/reflectlite.Value).Type", "(internal/reflectlite.Value).IsNil", "internal/reflectlite.TypeOf", "(internal/reflectlite.Value).Elem", "(internal/reflectlite.Value).Set"], unfollowed := true, recurses := true, named := ["errors.errorType"], apart := false, laid := [("errors.errorType", laid_errors_errorType)], narrowed := true }
def SpongeTellsUptoSaid : Prop := spongeTellsUptoRow.holds Tryd.pinned (OpenSpec.upto spongeTellsSpec)

/-- 'chatelainelaw2.SpongeBegins', WHERE WHAT IT READS IS OF BULK AT MOST 1048576: true; the input reads as it did. -/
def spongeBeginsUptoRow : OpenClaim := { program := "ytnkpeojnbajooaadoor", sum := "da48d78107ce375143ed5d498d4f347d1a008d3d9704247a19c6ea608d5dac26", func := "chatelaine/chatelainelaw2.SpongeBegins", spec := "spongeBegins", inPlace := ["internal/reflectlite.ValueOf", "(internal/reflectlite.Value).Type", "(internal/reflectlite.Value).IsNil", "internal/reflectlite.TypeOf", "(internal/reflectlite.Value).Elem", "(internal/reflectlite.Value).Set"], unfollowed := true, recurses := true, named := ["errors.errorType"], apart := false, laid := [("errors.errorType", laid_errors_errorType)], narrowed := true }
def SpongeBeginsUptoSaid : Prop := spongeBeginsUptoRow.holds Tryd.pinned (OpenSpec.upto spongeBeginsSpec)

end Rows
end Go.Proofs.YtnkpeojnbajooaaDoor
