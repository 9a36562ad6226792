/-
  NARROWER THAN 'FOR EVERY INPUT', by the rows' own cells (each row's printed sentence says how): SiftSeeds: laid · SiftMasks: laid · SiftBounds: laid.
  DERIVED. THE GIVEN ROWS OF THIS SEAT. 3 by the template 'for every input the law returns true; each argument reads behind the call as it read before'; 0 by the template 'total and deterministic' (their statements: YtfaalfjjkddgiaaDoorTotals.lean).
  GIVEN WITH THE SEED: the statements are not yours to turn. If you find one false, say at which input.
  Laid BY PROGRAM, IN A SANDBOX (cutbox-rows.mjs): the forced cells as the released guide's own fill.sh prints them over the translation 02ee01f5991b5e78… (all of the seat's roots in one cut). By AI agents, Wed Nov 11 2026. No macro, syntax, notation, axiom, sorry.
-/
import Derived.Test.YtfaalfjjkddgiaaDoorChecked
import GoSem.Claim
import GoSem.ClaimJoined
import GoSem.ClaimMapViews
import Derived.JoinedTies
import Derived.KernelRfl
namespace Go.Proofs.YtfaalfjjkddgiaaDoor
/- THE CELL 'sum', in the pinned program and in every row, IS THE sha256 OF THE DUMP (.gsa) THAT YtfaalfjjkddgiaaDoorProg.lean LOADS. Nothing in Lean hashes anything: it is a label: what it is worth is what the hold of that sum in a sandbox is worth. -/
noncomputable def Tryd.pinned : Pinned := { name := "ytfaalfjjkddgiaadoor", sum := "02ee01f5991b5e78df06920c9974464bb616ce0ff701469b7bc7c8673d40a2ed", checked := Tryd.checked }
namespace Rows
def none {H : Type} : Left H := { results := [], args := [] }

/- WHAT THE LISTED PACKAGE-LEVEL VARIABLES READ AS WHEN THE CALL BEGINS. Each datum BY PROGRAM (the guide's laid-datum.mjs) off the statement by which the dump's own 'gosem.cut.vars' lays the variable. In a bare row this is a premise. The card (YtfaalfjjkddgiaaDoorCards.lean) ties it to the program's text. -/
def laid_errors_errorType {H : Type} : DataW H := .iface "internal/reflectlite.rtype" (.agg [.ptr (.lit (.string [101, 114, 114, 111, 114]))])

/-- 'chatelainelaw12.SiftSeeds': WHATEVER THE INPUT: true; the input reads as it did. -/
def siftSeedsSpec : ChangeSpec := { name := "siftSeeds", fn := fun _ => fun
  | [d1, d2, d3] => { results := [.lit (.bool true)], args := [d1, d2, d3] }
  | _ => none }
def siftSeedsRow : OpenClaim := { program := "ytfaalfjjkddgiaadoor", sum := "02ee01f5991b5e78df06920c9974464bb616ce0ff701469b7bc7c8673d40a2ed", func := "chatelaine/chatelainelaw12.SiftSeeds", spec := "siftSeeds", inPlace := ["internal/reflectlite.ValueOf", "(internal/reflectlite.Value).Type", "(internal/reflectlite.Value).IsNil", "internal/reflectlite.TypeOf", "(internal/reflectlite.Value).Elem", "(internal/reflectlite.Value).Set"], unfollowed := true, recurses := true, named := ["errors.errorType"], apart := false, laid := [("errors.errorType", laid_errors_errorType)] }
def SiftSeedsSaid : Prop := siftSeedsRow.holds Tryd.pinned (OpenSpec.ofChange siftSeedsSpec)

/-- ITS FALSE NEIGHBOUR: 'it returns false'. Refute it at one input. -/
def siftSeedsWrong : ChangeSpec := { name := "siftSeeds", fn := fun _ => fun
  | [d1, d2, d3] => { results := [.lit (.bool false)], args := [d1, d2, d3] }
  | _ => none }
def SiftSeedsWrongFalsely : Prop := siftSeedsRow.holds Tryd.pinned (OpenSpec.ofChange siftSeedsWrong)

/-- 'chatelainelaw12.SiftMasks': WHATEVER THE INPUT: true; the input reads as it did. -/
def siftMasksSpec : ChangeSpec := { name := "siftMasks", fn := fun _ => fun
  | [d1, d2, d3] => { results := [.lit (.bool true)], args := [d1, d2, d3] }
  | _ => none }
def siftMasksRow : OpenClaim := { program := "ytfaalfjjkddgiaadoor", sum := "02ee01f5991b5e78df06920c9974464bb616ce0ff701469b7bc7c8673d40a2ed", func := "chatelaine/chatelainelaw12.SiftMasks", spec := "siftMasks", inPlace := ["internal/reflectlite.ValueOf", "(internal/reflectlite.Value).Type", "(internal/reflectlite.Value).IsNil", "internal/reflectlite.TypeOf", "(internal/reflectlite.Value).Elem", "(internal/reflectlite.Value).Set"], unfollowed := true, recurses := true, named := ["errors.errorType"], apart := false, laid := [("errors.errorType", laid_errors_errorType)] }
def SiftMasksSaid : Prop := siftMasksRow.holds Tryd.pinned (OpenSpec.ofChange siftMasksSpec)

/-- ITS FALSE NEIGHBOUR: 'it returns false'. Refute it at one input. -/
def siftMasksWrong : ChangeSpec := { name := "siftMasks", fn := fun _ => fun
  | [d1, d2, d3] => { results := [.lit (.bool false)], args := [d1, d2, d3] }
  | _ => none }
def SiftMasksWrongFalsely : Prop := siftMasksRow.holds Tryd.pinned (OpenSpec.ofChange siftMasksWrong)

/-- 'chatelainelaw12.SiftBounds': WHATEVER THE INPUT: true; the input reads as it did. -/
def siftBoundsSpec : ChangeSpec := { name := "siftBounds", fn := fun _ => fun
  | [d1, d2, d3] => { results := [.lit (.bool true)], args := [d1, d2, d3] }
  | _ => none }
def siftBoundsRow : OpenClaim := { program := "ytfaalfjjkddgiaadoor", sum := "02ee01f5991b5e78df06920c9974464bb616ce0ff701469b7bc7c8673d40a2ed", func := "chatelaine/chatelainelaw12.SiftBounds", spec := "siftBounds", inPlace := ["internal/reflectlite.ValueOf", "(internal/reflectlite.Value).Type", "(internal/reflectlite.Value).IsNil", "internal/reflectlite.TypeOf", "(internal/reflectlite.Value).Elem", "(internal/reflectlite.Value).Set"], unfollowed := true, recurses := true, named := ["errors.errorType"], apart := false, laid := [("errors.errorType", laid_errors_errorType)] }
def SiftBoundsSaid : Prop := siftBoundsRow.holds Tryd.pinned (OpenSpec.ofChange siftBoundsSpec)

/-- ITS FALSE NEIGHBOUR: 'it returns false'. Refute it at one input. -/
def siftBoundsWrong : ChangeSpec := { name := "siftBounds", fn := fun _ => fun
  | [d1, d2, d3] => { results := [.lit (.bool false)], args := [d1, d2, d3] }
  | _ => none }
def SiftBoundsWrongFalsely : Prop := siftBoundsRow.holds Tryd.pinned (OpenSpec.ofChange siftBoundsWrong)

/- THE SECOND FORM. 'bulk': how many values and letters a reading holds, each counted each time it is reached (what is shared counts as often as it is met; a slice's spare places count too). A statement '..UptoSaid' is the law's where the arguments, and the package variables that the reading takes, are together of bulk at most 1048576: NARROWER than '..Said'. Prove '..Said' where nothing that the law and all that it calls make is longer than what came in: it says more and counts as full. Else prove '..UptoSaid'. A law counts once. -/
mutual
def uptoBulk {H : Type} : DataW H → Nat
  | .lit (.string bytes) => bytes.length + 1
  | .lit _ => 1
  | .nil => 1
  | .ptr d => uptoBulk d + 1
  | .slice elems spare => uptoBulkAll elems + uptoBulkAll spare + 1
  | .agg parts => uptoBulkAll parts + 1
  | .iface _ d => uptoBulk d + 1
  | .map entries => uptoBulkEntries entries + 1
  | .held _ => 1
def uptoBulkAll {H : Type} : List (DataW H) → Nat
  | [] => 0
  | d :: r => uptoBulk d + uptoBulkAll r
def uptoBulkEntries {H : Type} : List (Lit × DataW H) → Nat
  | [] => 0
  | x :: r => uptoBulkEntry x + uptoBulkEntries r
def uptoBulkEntry {H : Type} : Lit × DataW H → Nat
  | (.string bytes, d) => bytes.length + uptoBulk d + 1
  | (_, d) => uptoBulk d + 1
 end
def uptoSmall : (H : Type) → List (DataW H) → Bool := fun _ ds => decide (uptoBulkAll ds ≤ 1048576)
def OpenSpec.upto (s : _root_.Go.ChangeSpec) : _root_.Go.OpenSpec := { _root_.Go.OpenSpec.ofChange s with cond := some uptoSmall }

/-- 'chatelainelaw12.SiftSeeds', WHERE WHAT IT READS IS OF BULK AT MOST 1048576: true; the input reads as it did. -/
def siftSeedsUptoRow : OpenClaim := { program := "ytfaalfjjkddgiaadoor", sum := "02ee01f5991b5e78df06920c9974464bb616ce0ff701469b7bc7c8673d40a2ed", func := "chatelaine/chatelainelaw12.SiftSeeds", spec := "siftSeeds", inPlace := ["internal/reflectlite.ValueOf", "(internal/reflectlite.Value).Type", "(internal/reflectlite.Value).IsNil", "internal/reflectlite.TypeOf", "(internal/reflectlite.Value).Elem", "(internal/reflectlite.Value).Set"], unfollowed := true, recurses := true, named := ["errors.errorType"], apart := false, laid := [("errors.errorType", laid_errors_errorType)], narrowed := true }
def SiftSeedsUptoSaid : Prop := siftSeedsUptoRow.holds Tryd.pinned (OpenSpec.upto siftSeedsSpec)

/-- 'chatelainelaw12.SiftMasks', WHERE WHAT IT READS IS OF BULK AT MOST 1048576: true; the input reads as it did. -/
def siftMasksUptoRow : OpenClaim := { program := "ytfaalfjjkddgiaadoor", sum := "02ee01f5991b5e78df06920c9974464bb616ce0ff701469b7bc7c8673d40a2ed", func := "chatelaine/chatelainelaw12.SiftMasks", spec := "siftMasks", inPlace := ["internal/reflectlite.ValueOf", "(internal/reflectlite.Value).Type", "(internal/reflectlite.Value).IsNil", "internal/reflectlite.TypeOf", "(internal/reflectlite.Value).Elem", "(internal/reflectlite.Value).Set"], unfollowed := true, recurses := true, named := ["errors.errorType"], apart := false, laid := [("errors.errorType", laid_errors_errorType)], narrowed := true }
def SiftMasksUptoSaid : Prop := siftMasksUptoRow.holds Tryd.pinned (OpenSpec.upto siftMasksSpec)

/-- 'chatelainelaw12.SiftBounds', WHERE WHAT IT READS IS OF BULK AT MOST 1048576: true; the input reads as it did. -/
def siftBoundsUptoRow : OpenClaim := { program := "ytfaalfjjkddgiaadoor", sum := "02ee01f5991b5e78df06920c9974464bb616ce0ff701469b7bc7c8673d40a2ed", func := "chatelaine/chatelainelaw12.SiftBounds", spec := "siftBounds", inPlace := ["internal/reflectlite.ValueOf", "(internal/reflectlite.Value).Type", "(internal/reflectlite.Value).IsNil", "internal/reflectlite.TypeOf", "(internal/reflectlite.Value).Elem", "(internal/reflectlite.Value).Set"], unfollowed := true, recurses := true, named := ["errors.errorType"], apart := false, laid := [("errors.errorType", laid_errors_errorType)], narrowed := true }
def SiftBoundsUptoSaid : Prop := siftBoundsUptoRow.holds Tryd.pinned (OpenSpec.upto siftBoundsSpec)

end Rows
end Go.Proofs.YtfaalfjjkddgiaaDoor
