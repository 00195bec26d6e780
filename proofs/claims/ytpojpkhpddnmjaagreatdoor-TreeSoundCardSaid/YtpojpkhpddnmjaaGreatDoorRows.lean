/-
  NARROWER THAN 'FOR EVERY INPUT', by the rows' own cells (each row's printed sentence says how): TreeSound: laid · TreeBack: laid · TreeLooks: laid · TreeActs: laid.
  DERIVED. THE GIVEN ROWS OF THIS SEAT. 4 by the template 'for every input the law returns true; each argument reads behind the call as it read before'; 0 by the template 'total and deterministic' (their statements: YtpojpkhpddnmjaaGreatDoorTotals.lean).
  GIVEN WITH THE SEED: the statements are not yours to turn. If you find one false, say at which input.
  Laid BY PROGRAM, IN A SANDBOX (cutbox-rows.mjs): the forced cells as the released guide's own fill.sh prints them over the translation c6fc67ba910c908c… (all of the seat's roots in one cut). By AI agents, Wed Nov 11 2026. No macro, syntax, notation, axiom, sorry.
-/
import Derived.Test.YtpojpkhpddnmjaaGreatDoorChecked
import GoSem.Claim
import GoSem.ClaimJoined
import GoSem.ClaimMapViews
import Derived.JoinedTies
import Derived.KernelRfl
namespace Go.Proofs.YtpojpkhpddnmjaaGreatDoor
/- THE CELL 'sum', in the pinned program and in every row, IS THE sha256 OF THE DUMP (.gsa) THAT YtpojpkhpddnmjaaGreatDoorProg.lean LOADS. Nothing in Lean hashes anything: it is a label: what it is worth is what the hold of that sum in a sandbox is worth. -/
noncomputable def Tryz.pinned : Pinned := { name := "ytpojpkhpddnmjaagreatdoor", sum := "c6fc67ba910c908c6edab354969f5361bc3fe3ebb0194fed0831f6214b1601f2", checked := Tryz.checked }
namespace Rows
def none {H : Type} : Left H := { results := [], args := [] }

/- WHAT THE LISTED PACKAGE-LEVEL VARIABLES READ AS WHEN THE CALL BEGINS. Each datum BY PROGRAM (the guide's laid-datum.mjs) off the statement by which the dump's own 'gosem.cut.vars' lays the variable. In a bare row this is a premise. The card (YtpojpkhpddnmjaaGreatDoorCards.lean) ties it to the program's text. -/
def laid_pigeonholes_api_ErrBound {H : Type} : DataW H := .iface "*errors.errorString" (.ptr (.agg [.lit (.string [112, 105, 103, 101, 111, 110, 104, 111, 108, 101, 115, 58, 32, 98, 111, 117, 110, 100])]))
def laid_pigeonholes_api_ErrShape {H : Type} : DataW H := .iface "*errors.errorString" (.ptr (.agg [.lit (.string [112, 105, 103, 101, 111, 110, 104, 111, 108, 101, 115, 58, 32, 115, 104, 97, 112, 101])]))
def laid_pigeonholes_api_ErrName {H : Type} : DataW H := .iface "*errors.errorString" (.ptr (.agg [.lit (.string [112, 105, 103, 101, 111, 110, 104, 111, 108, 101, 115, 58, 32, 110, 97, 109, 101])]))
def laid_pigeonholes_api_ErrNone {H : Type} : DataW H := .iface "*errors.errorString" (.ptr (.agg [.lit (.string [112, 105, 103, 101, 111, 110, 104, 111, 108, 101, 115, 58, 32, 110, 111, 110, 101])]))
def laid_pigeonholes_api_ErrExist {H : Type} : DataW H := .iface "*errors.errorString" (.ptr (.agg [.lit (.string [112, 105, 103, 101, 111, 110, 104, 111, 108, 101, 115, 58, 32, 101, 120, 105, 115, 116])]))
def laid_pigeonholes_api_ErrDir {H : Type} : DataW H := .iface "*errors.errorString" (.ptr (.agg [.lit (.string [112, 105, 103, 101, 111, 110, 104, 111, 108, 101, 115, 58, 32, 100, 105, 114])]))
def laid_pigeonholes_api_ErrFile {H : Type} : DataW H := .iface "*errors.errorString" (.ptr (.agg [.lit (.string [112, 105, 103, 101, 111, 110, 104, 111, 108, 101, 115, 58, 32, 102, 105, 108, 101])]))
def laid_pigeonholes_api_ErrFull {H : Type} : DataW H := .iface "*errors.errorString" (.ptr (.agg [.lit (.string [112, 105, 103, 101, 111, 110, 104, 111, 108, 101, 115, 58, 32, 102, 117, 108, 108])]))
def laid_pigeonholes_api_ErrStale {H : Type} : DataW H := .iface "*errors.errorString" (.ptr (.agg [.lit (.string [112, 105, 103, 101, 111, 110, 104, 111, 108, 101, 115, 58, 32, 115, 116, 97, 108, 101])]))
def laid_pigeonholes_api_ErrHeld {H : Type} : DataW H := .iface "*errors.errorString" (.ptr (.agg [.lit (.string [112, 105, 103, 101, 111, 110, 104, 111, 108, 101, 115, 58, 32, 104, 101, 108, 100])]))
def laid_errors_errorType {H : Type} : DataW H := .iface "internal/reflectlite.rtype" (.agg [.ptr (.lit (.string [101, 114, 114, 111, 114]))])
def laid_pigeonholes_api_ErrText {H : Type} : DataW H := .iface "*errors.errorString" (.ptr (.agg [.lit (.string [112, 105, 103, 101, 111, 110, 104, 111, 108, 101, 115, 58, 32, 116, 101, 120, 116])]))
def laid_pigeonholes_api_ErrSeq {H : Type} : DataW H := .iface "*errors.errorString" (.ptr (.agg [.lit (.string [112, 105, 103, 101, 111, 110, 104, 111, 108, 101, 115, 58, 32, 115, 101, 113])]))
def laid_pigeonholes_api_ErrOld {H : Type} : DataW H := .iface "*errors.errorString" (.ptr (.agg [.lit (.string [112, 105, 103, 101, 111, 110, 104, 111, 108, 101, 115, 58, 32, 111, 108, 100])]))
def laid_pigeonholes_api_ErrGrace {H : Type} : DataW H := .iface "*errors.errorString" (.ptr (.agg [.lit (.string [112, 105, 103, 101, 111, 110, 104, 111, 108, 101, 115, 58, 32, 103, 114, 97, 99, 101])]))
def laid_pigeonholes_api_ErrPower {H : Type} : DataW H := .iface "*errors.errorString" (.ptr (.agg [.lit (.string [112, 105, 103, 101, 111, 110, 104, 111, 108, 101, 115, 58, 32, 112, 111, 119, 101, 114])]))

/-- 'pigeonholeslaw1.TreeSound': WHATEVER THE INPUT: true; the input reads as it did. -/
def treeSoundSpec : ChangeSpec := { name := "treeSound", fn := fun _ => fun
  | [d] => { results := [.lit (.bool true)], args := [d] }
  | _ => none }
def treeSoundRow : OpenClaim := { program := "ytpojpkhpddnmjaagreatdoor", sum := "c6fc67ba910c908c6edab354969f5361bc3fe3ebb0194fed0831f6214b1601f2", func := "pigeonholes/pigeonholeslaw1.TreeSound", spec := "treeSound", unfollowed := true, recurses := true, named := ["pigeonholes/api.ErrBound", "pigeonholes/api.ErrShape", "pigeonholes/api.ErrFull", "pigeonholes/api.ErrStale", "pigeonholes/api.ErrExist", "pigeonholes/api.ErrDir", "pigeonholes/api.ErrName", "pigeonholes/api.ErrFile", "pigeonholes/api.ErrHeld", "pigeonholes/api.ErrNone"], plainKeys := false, apart := false, laid := [("pigeonholes/api.ErrBound", laid_pigeonholes_api_ErrBound), ("pigeonholes/api.ErrShape", laid_pigeonholes_api_ErrShape), ("pigeonholes/api.ErrName", laid_pigeonholes_api_ErrName), ("pigeonholes/api.ErrNone", laid_pigeonholes_api_ErrNone), ("pigeonholes/api.ErrExist", laid_pigeonholes_api_ErrExist), ("pigeonholes/api.ErrDir", laid_pigeonholes_api_ErrDir), ("pigeonholes/api.ErrFile", laid_pigeonholes_api_ErrFile), ("pigeonholes/api.ErrFull", laid_pigeonholes_api_ErrFull), ("pigeonholes/api.ErrStale", laid_pigeonholes_api_ErrStale), ("pigeonholes/api.ErrHeld", laid_pigeonholes_api_ErrHeld)] }
def TreeSoundSaid : Prop := treeSoundRow.holds Tryz.pinned (OpenSpec.ofChange treeSoundSpec)

/-- ITS FALSE NEIGHBOUR: 'it returns false'. Refute it at one input. -/
def treeSoundWrong : ChangeSpec := { name := "treeSound", fn := fun _ => fun
  | [d] => { results := [.lit (.bool false)], args := [d] }
  | _ => none }
def TreeSoundWrongFalsely : Prop := treeSoundRow.holds Tryz.pinned (OpenSpec.ofChange treeSoundWrong)

/-- 'pigeonholeslaw1.TreeBack': WHATEVER THE INPUT: true; the input reads as it did. -/
def treeBackSpec : ChangeSpec := { name := "treeBack", fn := fun _ => fun
  | [d1, d2, d3, d4, d5] => { results := [.lit (.bool true)], args := [d1, d2, d3, d4, d5] }
  | _ => none }
def treeBackRow : OpenClaim := { program := "ytpojpkhpddnmjaagreatdoor", sum := "c6fc67ba910c908c6edab354969f5361bc3fe3ebb0194fed0831f6214b1601f2", func := "pigeonholes/pigeonholeslaw1.TreeBack", spec := "treeBack", inPlace := ["internal/reflectlite.ValueOf", "(internal/reflectlite.Value).Type", "(internal/reflectlite.Value).IsNil", "internal/reflectlite.TypeOf", "(internal/reflectlite.Value).Elem", "(internal/reflectlite.Value).Set"], unfollowed := true, recurses := true, named := ["pigeonholes/api.ErrBound", "pigeonholes/api.ErrShape", "pigeonholes/api.ErrFull", "pigeonholes/api.ErrStale", "pigeonholes/api.ErrExist", "pigeonholes/api.ErrDir", "pigeonholes/api.ErrName", "pigeonholes/api.ErrFile", "pigeonholes/api.ErrHeld", "pigeonholes/api.ErrNone", "pigeonholes/api.ErrText", "pigeonholes/api.ErrSeq", "pigeonholes/api.ErrOld", "pigeonholes/api.ErrGrace", "pigeonholes/api.ErrPower", "errors.errorType"], plainKeys := false, apart := false, laid := [("errors.errorType", laid_errors_errorType), ("pigeonholes/api.ErrText", laid_pigeonholes_api_ErrText), ("pigeonholes/api.ErrBound", laid_pigeonholes_api_ErrBound), ("pigeonholes/api.ErrShape", laid_pigeonholes_api_ErrShape), ("pigeonholes/api.ErrName", laid_pigeonholes_api_ErrName), ("pigeonholes/api.ErrNone", laid_pigeonholes_api_ErrNone), ("pigeonholes/api.ErrExist", laid_pigeonholes_api_ErrExist), ("pigeonholes/api.ErrDir", laid_pigeonholes_api_ErrDir), ("pigeonholes/api.ErrFile", laid_pigeonholes_api_ErrFile), ("pigeonholes/api.ErrFull", laid_pigeonholes_api_ErrFull), ("pigeonholes/api.ErrStale", laid_pigeonholes_api_ErrStale), ("pigeonholes/api.ErrHeld", laid_pigeonholes_api_ErrHeld), ("pigeonholes/api.ErrSeq", laid_pigeonholes_api_ErrSeq), ("pigeonholes/api.ErrOld", laid_pigeonholes_api_ErrOld), ("pigeonholes/api.ErrGrace", laid_pigeonholes_api_ErrGrace), ("pigeonholes/api.ErrPower", laid_pigeonholes_api_ErrPower)] }
def TreeBackSaid : Prop := treeBackRow.holds Tryz.pinned (OpenSpec.ofChange treeBackSpec)

/-- ITS FALSE NEIGHBOUR: 'it returns false'. Refute it at one input. -/
def treeBackWrong : ChangeSpec := { name := "treeBack", fn := fun _ => fun
  | [d1, d2, d3, d4, d5] => { results := [.lit (.bool false)], args := [d1, d2, d3, d4, d5] }
  | _ => none }
def TreeBackWrongFalsely : Prop := treeBackRow.holds Tryz.pinned (OpenSpec.ofChange treeBackWrong)

/-- 'pigeonholeslaw1.TreeLooks': WHATEVER THE INPUT: true; the input reads as it did. -/
def treeLooksSpec : ChangeSpec := { name := "treeLooks", fn := fun _ => fun
  | [d1, d2, d3, d4, d5, d6] => { results := [.lit (.bool true)], args := [d1, d2, d3, d4, d5, d6] }
  | _ => none }
def treeLooksRow : OpenClaim := { program := "ytpojpkhpddnmjaagreatdoor", sum := "c6fc67ba910c908c6edab354969f5361bc3fe3ebb0194fed0831f6214b1601f2", func := "pigeonholes/pigeonholeslaw1.TreeLooks", spec := "treeLooks", inPlace := ["internal/reflectlite.ValueOf", "(internal/reflectlite.Value).Type", "(internal/reflectlite.Value).IsNil", "internal/reflectlite.TypeOf", "(internal/reflectlite.Value).Elem", "(internal/reflectlite.Value).Set"], unfollowed := true, recurses := true, named := ["pigeonholes/api.ErrBound", "pigeonholes/api.ErrShape", "pigeonholes/api.ErrFull", "pigeonholes/api.ErrStale", "pigeonholes/api.ErrExist", "pigeonholes/api.ErrDir", "pigeonholes/api.ErrName", "pigeonholes/api.ErrFile", "pigeonholes/api.ErrHeld", "pigeonholes/api.ErrNone", "pigeonholes/api.ErrText", "pigeonholes/api.ErrSeq", "pigeonholes/api.ErrOld", "pigeonholes/api.ErrGrace", "pigeonholes/api.ErrPower", "errors.errorType"], plainKeys := false, apart := false, laid := [("errors.errorType", laid_errors_errorType), ("pigeonholes/api.ErrText", laid_pigeonholes_api_ErrText), ("pigeonholes/api.ErrBound", laid_pigeonholes_api_ErrBound), ("pigeonholes/api.ErrShape", laid_pigeonholes_api_ErrShape), ("pigeonholes/api.ErrName", laid_pigeonholes_api_ErrName), ("pigeonholes/api.ErrNone", laid_pigeonholes_api_ErrNone), ("pigeonholes/api.ErrExist", laid_pigeonholes_api_ErrExist), ("pigeonholes/api.ErrDir", laid_pigeonholes_api_ErrDir), ("pigeonholes/api.ErrFile", laid_pigeonholes_api_ErrFile), ("pigeonholes/api.ErrFull", laid_pigeonholes_api_ErrFull), ("pigeonholes/api.ErrStale", laid_pigeonholes_api_ErrStale), ("pigeonholes/api.ErrHeld", laid_pigeonholes_api_ErrHeld), ("pigeonholes/api.ErrSeq", laid_pigeonholes_api_ErrSeq), ("pigeonholes/api.ErrOld", laid_pigeonholes_api_ErrOld), ("pigeonholes/api.ErrGrace", laid_pigeonholes_api_ErrGrace), ("pigeonholes/api.ErrPower", laid_pigeonholes_api_ErrPower)] }
def TreeLooksSaid : Prop := treeLooksRow.holds Tryz.pinned (OpenSpec.ofChange treeLooksSpec)

/-- ITS FALSE NEIGHBOUR: 'it returns false'. Refute it at one input. -/
def treeLooksWrong : ChangeSpec := { name := "treeLooks", fn := fun _ => fun
  | [d1, d2, d3, d4, d5, d6] => { results := [.lit (.bool false)], args := [d1, d2, d3, d4, d5, d6] }
  | _ => none }
def TreeLooksWrongFalsely : Prop := treeLooksRow.holds Tryz.pinned (OpenSpec.ofChange treeLooksWrong)

/-- 'pigeonholeslaw1.TreeActs': WHATEVER THE INPUT: true; the input reads as it did. -/
def treeActsSpec : ChangeSpec := { name := "treeActs", fn := fun _ => fun
  | [d1, d2] => { results := [.lit (.bool true)], args := [d1, d2] }
  | _ => none }
def treeActsRow : OpenClaim := { program := "ytpojpkhpddnmjaagreatdoor", sum := "c6fc67ba910c908c6edab354969f5361bc3fe3ebb0194fed0831f6214b1601f2", func := "pigeonholes/pigeonholeslaw1.TreeActs", spec := "treeActs", inPlace := ["internal/reflectlite.ValueOf", "(internal/reflectlite.Value).Type", "(internal/reflectlite.Value).IsNil", "internal/reflectlite.TypeOf", "(internal/reflectlite.Value).Elem", "(internal/reflectlite.Value).Set"], unfollowed := true, recurses := true, named := ["pigeonholes/api.ErrBound", "pigeonholes/api.ErrShape", "pigeonholes/api.ErrFull", "pigeonholes/api.ErrStale", "pigeonholes/api.ErrExist", "pigeonholes/api.ErrDir", "pigeonholes/api.ErrName", "pigeonholes/api.ErrText", "pigeonholes/api.ErrNone", "pigeonholes/api.ErrFile", "pigeonholes/api.ErrHeld", "pigeonholes/api.ErrSeq", "pigeonholes/api.ErrOld", "pigeonholes/api.ErrGrace", "pigeonholes/api.ErrPower", "errors.errorType"], plainKeys := false, apart := false, laid := [("errors.errorType", laid_errors_errorType), ("pigeonholes/api.ErrText", laid_pigeonholes_api_ErrText), ("pigeonholes/api.ErrBound", laid_pigeonholes_api_ErrBound), ("pigeonholes/api.ErrShape", laid_pigeonholes_api_ErrShape), ("pigeonholes/api.ErrName", laid_pigeonholes_api_ErrName), ("pigeonholes/api.ErrNone", laid_pigeonholes_api_ErrNone), ("pigeonholes/api.ErrExist", laid_pigeonholes_api_ErrExist), ("pigeonholes/api.ErrDir", laid_pigeonholes_api_ErrDir), ("pigeonholes/api.ErrFile", laid_pigeonholes_api_ErrFile), ("pigeonholes/api.ErrFull", laid_pigeonholes_api_ErrFull), ("pigeonholes/api.ErrStale", laid_pigeonholes_api_ErrStale), ("pigeonholes/api.ErrHeld", laid_pigeonholes_api_ErrHeld), ("pigeonholes/api.ErrSeq", laid_pigeonholes_api_ErrSeq), ("pigeonholes/api.ErrOld", laid_pigeonholes_api_ErrOld), ("pigeonholes/api.ErrGrace", laid_pigeonholes_api_ErrGrace), ("pigeonholes/api.ErrPower", laid_pigeonholes_api_ErrPower)] }
def TreeActsSaid : Prop := treeActsRow.holds Tryz.pinned (OpenSpec.ofChange treeActsSpec)

/-- ITS FALSE NEIGHBOUR: 'it returns false'. Refute it at one input. -/
def treeActsWrong : ChangeSpec := { name := "treeActs", fn := fun _ => fun
  | [d1, d2] => { results := [.lit (.bool false)], args := [d1, d2] }
  | _ => none }
def TreeActsWrongFalsely : Prop := treeActsRow.holds Tryz.pinned (OpenSpec.ofChange treeActsWrong)

/- THE SECOND FORM. 'bulk': how many values and letters a reading holds, each counted each time it is reached (what is shared counts as often as it is met; a slice's spare places count too). A statement '..UptoSaid' is the law's where the arguments, and the package variables that the reading takes, are together of bulk at most 1048576: NARROWER than '..Said'. Prove '..Said' where nothing that the law and all that it calls make is longer than what came in: it says more and counts as full. Else prove '..UptoSaid'. A law counts once. -/
mutual
def uptoBulk {H : Type} : DataW H → Nat
  | .lit (.string bytes) => bytes.length + 1
  | .lit _ => 1
  | .nil => 1
  | .ptr d => uptoBulk d + 1
  | .slice elems spare => uptoBulkAll elems + uptoBulkAll spare + 1
  | .agg parts => uptoBulkAll parts + 1
  | .iface _ d => uptoBulk d + 1
  | .map entries => uptoBulkEntries entries + 1
  | .held _ => 1
def uptoBulkAll {H : Type} : List (DataW H) → Nat
  | [] => 0
  | d :: r => uptoBulk d + uptoBulkAll r
def uptoBulkEntries {H : Type} : List (Lit × DataW H) → Nat
  | [] => 0
  | x :: r => uptoBulkEntry x + uptoBulkEntries r
def uptoBulkEntry {H : Type} : Lit × DataW H → Nat
  | (.string bytes, d) => bytes.length + uptoBulk d + 1
  | (_, d) => uptoBulk d + 1
 end
def uptoSmall : (H : Type) → List (DataW H) → Bool := fun _ ds => decide (uptoBulkAll ds ≤ 1048576)
def OpenSpec.upto (s : _root_.Go.ChangeSpec) : _root_.Go.OpenSpec := { _root_.Go.OpenSpec.ofChange s with cond := some uptoSmall }

/-- 'pigeonholeslaw1.TreeSound', WHERE WHAT IT READS IS OF BULK AT MOST 1048576: true; the input reads as it did. -/
def treeSoundUptoRow : OpenClaim := { program := "ytpojpkhpddnmjaagreatdoor", sum := "c6fc67ba910c908c6edab354969f5361bc3fe3ebb0194fed0831f6214b1601f2", func := "pigeonholes/pigeonholeslaw1.TreeSound", spec := "treeSound", unfollowed := true, recurses := true, named := ["pigeonholes/api.ErrBound", "pigeonholes/api.ErrShape", "pigeonholes/api.ErrFull", "pigeonholes/api.ErrStale", "pigeonholes/api.ErrExist", "pigeonholes/api.ErrDir", "pigeonholes/api.ErrName", "pigeonholes/api.ErrFile", "pigeonholes/api.ErrHeld", "pigeonholes/api.ErrNone"], plainKeys := false, apart := false, laid := [("pigeonholes/api.ErrBound", laid_pigeonholes_api_ErrBound), ("pigeonholes/api.ErrShape", laid_pigeonholes_api_ErrShape), ("pigeonholes/api.ErrName", laid_pigeonholes_api_ErrName), ("pigeonholes/api.ErrNone", laid_pigeonholes_api_ErrNone), ("pigeonholes/api.ErrExist", laid_pigeonholes_api_ErrExist), ("pigeonholes/api.ErrDir", laid_pigeonholes_api_ErrDir), ("pigeonholes/api.ErrFile", laid_pigeonholes_api_ErrFile), ("pigeonholes/api.ErrFull", laid_pigeonholes_api_ErrFull), ("pigeonholes/api.ErrStale", laid_pigeonholes_api_ErrStale), ("pigeonholes/api.ErrHeld", laid_pigeonholes_api_ErrHeld)], narrowed := true }
def TreeSoundUptoSaid : Prop := treeSoundUptoRow.holds Tryz.pinned (OpenSpec.upto treeSoundSpec)

/-- 'pigeonholeslaw1.TreeBack', WHERE WHAT IT READS IS OF BULK AT MOST 1048576: true; the input reads as it did. -/
def treeBackUptoRow : OpenClaim := { program := "ytpojpkhpddnmjaagreatdoor", sum := "c6fc67ba910c908c6edab354969f5361bc3fe3ebb0194fed0831f6214b1601f2", func := "pigeonholes/pigeonholeslaw1.TreeBack", spec := "treeBack", inPlace := ["internal/reflectlite.ValueOf", "(internal/reflectlite.Value).Type", "(internal/reflectlite.Value).IsNil", "internal/reflectlite.TypeOf", "(internal/reflectlite.Value).Elem", "(internal/reflectlite.Value).Set"], unfollowed := true, recurses := true, named := ["pigeonholes/api.ErrBound", "pigeonholes/api.ErrShape", "pigeonholes/api.ErrFull", "pigeonholes/api.ErrStale", "pigeonholes/api.ErrExist", "pigeonholes/api.ErrDir", "pigeonholes/api.ErrName", "pigeonholes/api.ErrFile", "pigeonholes/api.ErrHeld", "pigeonholes/api.ErrNone", "pigeonholes/api.ErrText", "pigeonholes/api.ErrSeq", "pigeonholes/api.ErrOld", "pigeonholes/api.ErrGrace", "pigeonholes/api.ErrPower", "errors.errorType"], plainKeys := false, apart := false, laid := [("errors.errorType", laid_errors_errorType), ("pigeonholes/api.ErrText", laid_pigeonholes_api_ErrText), ("pigeonholes/api.ErrBound", laid_pigeonholes_api_ErrBound), ("pigeonholes/api.ErrShape", laid_pigeonholes_api_ErrShape), ("pigeonholes/api.ErrName", laid_pigeonholes_api_ErrName), ("pigeonholes/api.ErrNone", laid_pigeonholes_api_ErrNone), ("pigeonholes/api.ErrExist", laid_pigeonholes_api_ErrExist), ("pigeonholes/api.ErrDir", laid_pigeonholes_api_ErrDir), ("pigeonholes/api.ErrFile", laid_pigeonholes_api_ErrFile), ("pigeonholes/api.ErrFull", laid_pigeonholes_api_ErrFull), ("pigeonholes/api.ErrStale", laid_pigeonholes_api_ErrStale), ("pigeonholes/api.ErrHeld", laid_pigeonholes_api_ErrHeld), ("pigeonholes/api.ErrSeq", laid_pigeonholes_api_ErrSeq), ("pigeonholes/api.ErrOld", laid_pigeonholes_api_ErrOld), ("pigeonholes/api.ErrGrace", laid_pigeonholes_api_ErrGrace), ("pigeonholes/api.ErrPower", laid_pigeonholes_api_ErrPower)], narrowed := true }
def TreeBackUptoSaid : Prop := treeBackUptoRow.holds Tryz.pinned (OpenSpec.upto treeBackSpec)

/-- 'pigeonholeslaw1.TreeLooks', WHERE WHAT IT READS IS OF BULK AT MOST 1048576: true; the input reads as it did. -/
def treeLooksUptoRow : OpenClaim := { program := "ytpojpkhpddnmjaagreatdoor", sum := "c6fc67ba910c908c6edab354969f5361bc3fe3ebb0194fed0831f6214b1601f2", func := "pigeonholes/pigeonholeslaw1.TreeLooks", spec := "treeLooks", inPlace := ["internal/reflectlite.ValueOf", "(internal/reflectlite.Value).Type", "(internal/reflectlite.Value).IsNil", "internal/reflectlite.TypeOf", "(internal/reflectlite.Value).Elem", "(internal/reflectlite.Value).Set"], unfollowed := true, recurses := true, named := ["pigeonholes/api.ErrBound", "pigeonholes/api.ErrShape", "pigeonholes/api.ErrFull", "pigeonholes/api.ErrStale", "pigeonholes/api.ErrExist", "pigeonholes/api.ErrDir", "pigeonholes/api.ErrName", "pigeonholes/api.ErrFile", "pigeonholes/api.ErrHeld", "pigeonholes/api.ErrNone", "pigeonholes/api.ErrText", "pigeonholes/api.ErrSeq", "pigeonholes/api.ErrOld", "pigeonholes/api.ErrGrace", "pigeonholes/api.ErrPower", "errors.errorType"], plainKeys := false, apart := false, laid := [("errors.errorType", laid_errors_errorType), ("pigeonholes/api.ErrText", laid_pigeonholes_api_ErrText), ("pigeonholes/api.ErrBound", laid_pigeonholes_api_ErrBound), ("pigeonholes/api.ErrShape", laid_pigeonholes_api_ErrShape), ("pigeonholes/api.ErrName", laid_pigeonholes_api_ErrName), ("pigeonholes/api.ErrNone", laid_pigeonholes_api_ErrNone), ("pigeonholes/api.ErrExist", laid_pigeonholes_api_ErrExist), ("pigeonholes/api.ErrDir", laid_pigeonholes_api_ErrDir), ("pigeonholes/api.ErrFile", laid_pigeonholes_api_ErrFile), ("pigeonholes/api.ErrFull", laid_pigeonholes_api_ErrFull), ("pigeonholes/api.ErrStale", laid_pigeonholes_api_ErrStale), ("pigeonholes/api.ErrHeld", laid_pigeonholes_api_ErrHeld), ("pigeonholes/api.ErrSeq", laid_pigeonholes_api_ErrSeq), ("pigeonholes/api.ErrOld", laid_pigeonholes_api_ErrOld), ("pigeonholes/api.ErrGrace", laid_pigeonholes_api_ErrGrace), ("pigeonholes/api.ErrPower", laid_pigeonholes_api_ErrPower)], narrowed := true }
def TreeLooksUptoSaid : Prop := treeLooksUptoRow.holds Tryz.pinned (OpenSpec.upto treeLooksSpec)

/-- 'pigeonholeslaw1.TreeActs', WHERE WHAT IT READS IS OF BULK AT MOST 1048576: true; the input reads as it did. -/
def treeActsUptoRow : OpenClaim := { program := "ytpojpkhpddnmjaagreatdoor", sum := "c6fc67ba910c908c6edab354969f5361bc3fe3ebb0194fed0831f6214b1601f2", func := "pigeonholes/pigeonholeslaw1.TreeActs", spec := "treeActs", inPlace := ["internal/reflectlite.ValueOf", "(internal/reflectlite.Value).Type", "(internal/reflectlite.Value).IsNil", "internal/reflectlite.TypeOf", "(internal/reflectlite.Value).Elem", "(internal/reflectlite.Value).Set"], unfollowed := true, recurses := true, named := ["pigeonholes/api.ErrBound", "pigeonholes/api.ErrShape", "pigeonholes/api.ErrFull", "pigeonholes/api.ErrStale", "pigeonholes/api.ErrExist", "pigeonholes/api.ErrDir", "pigeonholes/api.ErrName", "pigeonholes/api.ErrText", "pigeonholes/api.ErrNone", "pigeonholes/api.ErrFile", "pigeonholes/api.ErrHeld", "pigeonholes/api.ErrSeq", "pigeonholes/api.ErrOld", "pigeonholes/api.ErrGrace", "pigeonholes/api.ErrPower", "errors.errorType"], plainKeys := false, apart := false, laid := [("errors.errorType", laid_errors_errorType), ("pigeonholes/api.ErrText", laid_pigeonholes_api_ErrText), ("pigeonholes/api.ErrBound", laid_pigeonholes_api_ErrBound), ("pigeonholes/api.ErrShape", laid_pigeonholes_api_ErrShape), ("pigeonholes/api.ErrName", laid_pigeonholes_api_ErrName), ("pigeonholes/api.ErrNone", laid_pigeonholes_api_ErrNone), ("pigeonholes/api.ErrExist", laid_pigeonholes_api_ErrExist), ("pigeonholes/api.ErrDir", laid_pigeonholes_api_ErrDir), ("pigeonholes/api.ErrFile", laid_pigeonholes_api_ErrFile), ("pigeonholes/api.ErrFull", laid_pigeonholes_api_ErrFull), ("pigeonholes/api.ErrStale", laid_pigeonholes_api_ErrStale), ("pigeonholes/api.ErrHeld", laid_pigeonholes_api_ErrHeld), ("pigeonholes/api.ErrSeq", laid_pigeonholes_api_ErrSeq), ("pigeonholes/api.ErrOld", laid_pigeonholes_api_ErrOld), ("pigeonholes/api.ErrGrace", laid_pigeonholes_api_ErrGrace), ("pigeonholes/api.ErrPower", laid_pigeonholes_api_ErrPower)], narrowed := true }
def TreeActsUptoSaid : Prop := treeActsUptoRow.holds Tryz.pinned (OpenSpec.upto treeActsSpec)

end Rows
end Go.Proofs.YtpojpkhpddnmjaaGreatDoor
