/-
  NARROWER THAN 'FOR EVERY INPUT', by the rows' own cells (each row's printed sentence says how): SignSigns: laid · SignSets: laid · SignWrong: laid · SignTwice: laid · AskBack: laid.
  DERIVED. THE GIVEN ROWS OF THIS SEAT. 5 by the template 'for every input the law returns true; each argument reads behind the call as it read before'; 0 by the template 'total and deterministic' (their statements: YtdnhoebcomffoaaGreatDoorTotals.lean).
  GIVEN WITH THE SEED: the statements are not yours to turn. If you find one false, say at which input.
  Laid BY PROGRAM, IN A SANDBOX (cutbox-rows.mjs): the forced cells as the released guide's own fill.sh prints them over the translation 464085c5464b2074… (all of the seat's roots in one cut). By AI agents, Wed Nov 11 2026. No macro, syntax, notation, axiom, sorry.
-/
import Derived.Test.YtdnhoebcomffoaaGreatDoorChecked
import GoSem.Claim
import GoSem.ClaimJoined
import GoSem.ClaimMapViews
import Derived.JoinedTies
import Derived.KernelRfl
namespace Go.Proofs.YtdnhoebcomffoaaGreatDoor
/- THE CELL 'sum', in the pinned program and in every row, IS THE sha256 OF THE DUMP (.gsa) THAT YtdnhoebcomffoaaGreatDoorProg.lean LOADS. Nothing in Lean hashes anything: it is a label: what it is worth is what the hold of that sum in a sandbox is worth. -/
noncomputable def Tryz.pinned : Pinned := { name := "ytdnhoebcomffoaagreatdoor", sum := "464085c5464b2074fdf9574d7a90cdd60c9705644f191a0b8e2f920036543a51", checked := Tryz.checked }
namespace Rows
def none {H : Type} : Left H := { results := [], args := [] }

/- WHAT THE LISTED PACKAGE-LEVEL VARIABLES READ AS WHEN THE CALL BEGINS. Each datum BY PROGRAM (the guide's laid-datum.mjs) off the statement by which the dump's own 'gosem.cut.vars' lays the variable. In a bare row this is a premise. The card (YtdnhoebcomffoaaGreatDoorCards.lean) ties it to the program's text. -/
def laid_errors_errorType {H : Type} : DataW H := .iface "internal/reflectlite.rtype" (.agg [.ptr (.lit (.string [101, 114, 114, 111, 114]))])

/-- 'chatelainelaw13.SignSigns': WHATEVER THE INPUT: true; the input reads as it did. -/
def signSignsSpec : ChangeSpec := { name := "signSigns", fn := fun _ => fun
  | [d1, d2, d3, d4] => { results := [.lit (.bool true)], args := [d1, d2, d3, d4] }
  | _ => none }
def signSignsRow : OpenClaim := { program := "ytdnhoebcomffoaagreatdoor", sum := "464085c5464b2074fdf9574d7a90cdd60c9705644f191a0b8e2f920036543a51", func := "chatelaine/chatelainelaw13.SignSigns", spec := "signSigns", inPlace := ["internal/reflectlite.ValueOf", "(internal/reflectlite.Value).Type", "(internal/reflectlite.Value).IsNil", "internal/reflectlite.TypeOf", "(internal/reflectlite.Value).Elem", "(internal/reflectlite.Value).Set"], unfollowed := true, recurses := true, named := ["errors.errorType"], apart := false, laid := [("errors.errorType", laid_errors_errorType)] }
def SignSignsSaid : Prop := signSignsRow.holds Tryz.pinned (OpenSpec.ofChange signSignsSpec)

/-- ITS FALSE NEIGHBOUR: 'it returns false'. Refute it at one input. -/
def signSignsWrong : ChangeSpec := { name := "signSigns", fn := fun _ => fun
  | [d1, d2, d3, d4] => { results := [.lit (.bool false)], args := [d1, d2, d3, d4] }
  | _ => none }
def SignSignsWrongFalsely : Prop := signSignsRow.holds Tryz.pinned (OpenSpec.ofChange signSignsWrong)

/-- 'chatelainelaw13.SignSets': WHATEVER THE INPUT: true; the input reads as it did. -/
def signSetsSpec : ChangeSpec := { name := "signSets", fn := fun _ => fun
  | [d1, d2, d3] => { results := [.lit (.bool true)], args := [d1, d2, d3] }
  | _ => none }
def signSetsRow : OpenClaim := { program := "ytdnhoebcomffoaagreatdoor", sum := "464085c5464b2074fdf9574d7a90cdd60c9705644f191a0b8e2f920036543a51", func := "chatelaine/chatelainelaw13.SignSets", spec := "signSets", inPlace := ["internal/reflectlite.ValueOf", "(internal/reflectlite.Value).Type", "(internal/reflectlite.Value).IsNil", "internal/reflectlite.TypeOf", "(internal/reflectlite.Value).Elem", "(internal/reflectlite.Value).Set"], unfollowed := true, recurses := true, named := ["errors.errorType"], apart := false, laid := [("errors.errorType", laid_errors_errorType)] }
def SignSetsSaid : Prop := signSetsRow.holds Tryz.pinned (OpenSpec.ofChange signSetsSpec)

/-- ITS FALSE NEIGHBOUR: 'it returns false'. Refute it at one input. -/
def signSetsWrong : ChangeSpec := { name := "signSets", fn := fun _ => fun
  | [d1, d2, d3] => { results := [.lit (.bool false)], args := [d1, d2, d3] }
  | _ => none }
def SignSetsWrongFalsely : Prop := signSetsRow.holds Tryz.pinned (OpenSpec.ofChange signSetsWrong)

/-- 'chatelainelaw13.SignWrong': WHATEVER THE INPUT: true; the input reads as it did. -/
def signWrongSpec : ChangeSpec := { name := "signWrong", fn := fun _ => fun
  | [d1, d2, d3, d4, d5] => { results := [.lit (.bool true)], args := [d1, d2, d3, d4, d5] }
  | _ => none }
def signWrongRow : OpenClaim := { program := "ytdnhoebcomffoaagreatdoor", sum := "464085c5464b2074fdf9574d7a90cdd60c9705644f191a0b8e2f920036543a51", func := "chatelaine/chatelainelaw13.SignWrong", spec := "signWrong", inPlace := ["internal/reflectlite.ValueOf", "(internal/reflectlite.Value).Type", "(internal/reflectlite.Value).IsNil", "internal/reflectlite.TypeOf", "(internal/reflectlite.Value).Elem", "(internal/reflectlite.Value).Set"], unfollowed := true, recurses := true, named := ["errors.errorType"], apart := false, laid := [("errors.errorType", laid_errors_errorType)] }
def SignWrongSaid : Prop := signWrongRow.holds Tryz.pinned (OpenSpec.ofChange signWrongSpec)

/-- ITS FALSE NEIGHBOUR: 'it returns false'. Refute it at one input. -/
def signWrongWrong : ChangeSpec := { name := "signWrong", fn := fun _ => fun
  | [d1, d2, d3, d4, d5] => { results := [.lit (.bool false)], args := [d1, d2, d3, d4, d5] }
  | _ => none }
def SignWrongWrongFalsely : Prop := signWrongRow.holds Tryz.pinned (OpenSpec.ofChange signWrongWrong)

/-- 'chatelainelaw13.SignTwice': WHATEVER THE INPUT: true; the input reads as it did. -/
def signTwiceSpec : ChangeSpec := { name := "signTwice", fn := fun _ => fun
  | [d1, d2, d3, d4] => { results := [.lit (.bool true)], args := [d1, d2, d3, d4] }
  | _ => none }
def signTwiceRow : OpenClaim := { program := "ytdnhoebcomffoaagreatdoor", sum := "464085c5464b2074fdf9574d7a90cdd60c9705644f191a0b8e2f920036543a51", func := "chatelaine/chatelainelaw13.SignTwice", spec := "signTwice", inPlace := ["internal/reflectlite.ValueOf", "(internal/reflectlite.Value).Type", "(internal/reflectlite.Value).IsNil", "internal/reflectlite.TypeOf", "(internal/reflectlite.Value).Elem", "(internal/reflectlite.Value).Set"], unfollowed := true, recurses := true, named := ["errors.errorType"], apart := false, laid := [("errors.errorType", laid_errors_errorType)] }
def SignTwiceSaid : Prop := signTwiceRow.holds Tryz.pinned (OpenSpec.ofChange signTwiceSpec)

/-- ITS FALSE NEIGHBOUR: 'it returns false'. Refute it at one input. -/
def signTwiceWrong : ChangeSpec := { name := "signTwice", fn := fun _ => fun
  | [d1, d2, d3, d4] => { results := [.lit (.bool false)], args := [d1, d2, d3, d4] }
  | _ => none }
def SignTwiceWrongFalsely : Prop := signTwiceRow.holds Tryz.pinned (OpenSpec.ofChange signTwiceWrong)

/-- 'chatelainelaw15.AskBack': WHATEVER THE INPUT: true; the input reads as it did. -/
def askBackSpec : ChangeSpec := { name := "askBack", fn := fun _ => fun
  | [d1, d2] => { results := [.lit (.bool true)], args := [d1, d2] }
  | _ => none }
def askBackRow : OpenClaim := { program := "ytdnhoebcomffoaagreatdoor", sum := "464085c5464b2074fdf9574d7a90cdd60c9705644f191a0b8e2f920036543a51", func := "chatelaine/chatelainelaw15.AskBack", spec := "askBack", inPlace := ["internal/reflectlite.ValueOf", "(internal/reflectlite.Value).Type", "(internal/reflectlite.Value).IsNil", "internal/reflectlite.TypeOf", "(internal/reflectlite.Value).Elem", "(internal/reflectlite.Value).Set"], unfollowed := true, recurses := true, named := ["errors.errorType"], apart := false, laid := [("errors.errorType", laid_errors_errorType)] }
def AskBackSaid : Prop := askBackRow.holds Tryz.pinned (OpenSpec.ofChange askBackSpec)

/-- ITS FALSE NEIGHBOUR: 'it returns false'. Refute it at one input. -/
def askBackWrong : ChangeSpec := { name := "askBack", fn := fun _ => fun
  | [d1, d2] => { results := [.lit (.bool false)], args := [d1, d2] }
  | _ => none }
def AskBackWrongFalsely : Prop := askBackRow.holds Tryz.pinned (OpenSpec.ofChange askBackWrong)

/- THE SECOND FORM. 'bulk': how many values and letters a reading holds, each counted each time it is reached (what is shared counts as often as it is met; a slice's spare places count too). A statement '..UptoSaid' is the law's where the arguments, and the package variables that the reading takes, are together of bulk at most 1048576: NARROWER than '..Said'. Prove '..Said' where nothing that the law and all that it calls make is longer than what came in: it says more and counts as full. Else prove '..UptoSaid'. A law counts once. -/
mutual
def uptoBulk {H : Type} : DataW H → Nat
  | .lit (.string bytes) => bytes.length + 1
  | .lit _ => 1
  | .nil => 1
  | .ptr d => uptoBulk d + 1
  | .slice elems spare => uptoBulkAll elems + uptoBulkAll spare + 1
  | .agg parts => uptoBulkAll parts + 1
  | .iface _ d => uptoBulk d + 1
  | .map entries => uptoBulkEntries entries + 1
  | .held _ => 1
def uptoBulkAll {H : Type} : List (DataW H) → Nat
  | [] => 0
  | d :: r => uptoBulk d + uptoBulkAll r
def uptoBulkEntries {H : Type} : List (Lit × DataW H) → Nat
  | [] => 0
  | x :: r => uptoBulkEntry x + uptoBulkEntries r
def uptoBulkEntry {H : Type} : Lit × DataW H → Nat
  | (.string bytes, d) => bytes.length + uptoBulk d + 1
  | (_, d) => uptoBulk d + 1
 end
def uptoSmall : (H : Type) → List (DataW H) → Bool := fun _ ds => decide (uptoBulkAll ds ≤ 1048576)
def OpenSpec.upto (s : _root_.Go.ChangeSpec) : _root_.Go.OpenSpec := { _root_.Go.OpenSpec.ofChange s with cond := some uptoSmall }

/-- 'chatelainelaw13.SignSigns', WHERE WHAT IT READS IS OF BULK AT MOST 1048576: true; the input reads as it did. -/
def signSignsUptoRow : OpenClaim := { program := "ytdnhoebcomffoaagreatdoor", sum := "464085c5464b2074fdf9574d7a90cdd60c9705644f191a0b8e2f920036543a51", func := "chatelaine/chatelainelaw13.SignSigns", spec := "signSigns", inPlace := ["internal/reflectlite.ValueOf", "(internal/reflectlite.Value).Type", "(internal/reflectlite.Value).IsNil", "internal/reflectlite.TypeOf", "(internal/reflectlite.Value).Elem", "(internal/reflectlite.Value).Set"], unfollowed := true, recurses := true, named := ["errors.errorType"], apart := false, laid := [("errors.errorType", laid_errors_errorType)], narrowed := true }
def SignSignsUptoSaid : Prop := signSignsUptoRow.holds Tryz.pinned (OpenSpec.upto signSignsSpec)

/-- 'chatelainelaw13.SignSets', WHERE WHAT IT READS IS OF BULK AT MOST 1048576: true; the input reads as it did. -/
def signSetsUptoRow : OpenClaim := { program := "ytdnhoebcomffoaagreatdoor", sum := "464085c5464b2074fdf9574d7a90cdd60c9705644f191a0b8e2f920036543a51", func := "chatelaine/chatelainelaw13.SignSets", spec := "signSets", inPlace := ["internal/reflectlite.ValueOf", "(internal/reflectlite.Value).Type", "(internal/reflectlite.Value).IsNil", "internal/reflectlite.TypeOf", "(internal/reflectlite.Value).Elem", "(internal/reflectlite.Value).Set"], unfollowed := true, recurses := true, named := ["errors.errorType"], apart := false, laid := [("errors.errorType", laid_errors_errorType)], narrowed := true }
def SignSetsUptoSaid : Prop := signSetsUptoRow.holds Tryz.pinned (OpenSpec.upto signSetsSpec)

/-- 'chatelainelaw13.SignWrong', WHERE WHAT IT READS IS OF BULK AT MOST 1048576: true; the input reads as it did. -/
def signWrongUptoRow : OpenClaim := { program := "ytdnhoebcomffoaagreatdoor", sum := "464085c5464b2074fdf9574d7a90cdd60c9705644f191a0b8e2f920036543a51", func := "chatelaine/chatelainelaw13.SignWrong", spec := "signWrong", inPlace := ["internal/reflectlite.ValueOf", "(internal/reflectlite.Value).Type", "(internal/reflectlite.Value).IsNil", "internal/reflectlite.TypeOf", "(internal/reflectlite.Value).Elem", "(internal/reflectlite.Value).Set"], unfollowed := true, recurses := true, named := ["errors.errorType"], apart := false, laid := [("errors.errorType", laid_errors_errorType)], narrowed := true }
def SignWrongUptoSaid : Prop := signWrongUptoRow.holds Tryz.pinned (OpenSpec.upto signWrongSpec)

/-- 'chatelainelaw13.SignTwice', WHERE WHAT IT READS IS OF BULK AT MOST 1048576: true; the input reads as it did. -/
def signTwiceUptoRow : OpenClaim := { program := "ytdnhoebcomffoaagreatdoor", sum := "464085c5464b2074fdf9574d7a90cdd60c9705644f191a0b8e2f920036543a51", func := "chatelaine/chatelainelaw13.SignTwice", spec := "signTwice", inPlace := ["internal/reflectlite.ValueOf", "(internal/reflectlite.Value).Type", "(internal/reflectlite.Value).IsNil", "internal/reflectlite.TypeOf", "(internal/reflectlite.Value).Elem", "(internal/reflectlite.Value).Set"], unfollowed := true, recurses := true, named := ["errors.errorType"], apart := false, laid := [("errors.errorType", laid_errors_errorType)], narrowed := true }
def SignTwiceUptoSaid : Prop := signTwiceUptoRow.holds Tryz.pinned (OpenSpec.upto signTwiceSpec)

/-- 'chatelainelaw15.AskBack', WHERE WHAT IT READS IS OF BULK AT MOST 1048576: true; the input reads as it did. -/
def askBackUptoRow : OpenClaim := { program := "ytdnhoebcomffoaagreatdoor", sum := "464085c5464b2074fdf9574d7a90cdd60c9705644f191a0b8e2f920036543a51", func := "chatelaine/chatelainelaw15.AskBack", spec := "askBack", inPlace := ["internal/reflectlite.ValueOf", "(internal/reflectlite.Value).Type", "(internal/reflectlite.Value).IsNil", "internal/reflectlite.TypeOf", "(internal/reflectlite.Value).Elem", "(internal/reflectlite.Value).Set"], unfollowed := true, recurses := true, named := ["errors.errorType"], apart := false, laid := [("errors.errorType", laid_errors_errorType)], narrowed := true }
def AskBackUptoSaid : Prop := askBackUptoRow.holds Tryz.pinned (OpenSpec.upto askBackSpec)

end Rows
end Go.Proofs.YtdnhoebcomffoaaGreatDoor
