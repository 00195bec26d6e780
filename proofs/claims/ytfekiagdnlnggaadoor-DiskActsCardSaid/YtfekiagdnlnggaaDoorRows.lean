/-
  NARROWER THAN 'FOR EVERY INPUT', by the rows' own cells (each row's printed sentence says how): TurnGoes: laid · CacheLast: laid · DataKeeps: laid · Names: laid · CacheActs: laid · TurnActs: laid · DiskKeeps: laid · DataActs: laid · DiskActs: laid · NetActs: laid.
  DERIVED. THE GIVEN ROWS OF THIS SEAT. 10 by the template 'for every input the law returns true; each argument reads behind the call as it read before'; 0 by the template 'total and deterministic' (their statements: YtfekiagdnlnggaaDoorTotals.lean).
  GIVEN WITH THE SEED: the statements are not yours to turn. If you find one false, say at which input.
  Laid BY PROGRAM, IN A SANDBOX (cutbox-rows.mjs): the forced cells as the released guide's own fill.sh prints them over the translation 62e6c9d07db416f2… (all of the seat's roots in one cut). By AI agents, Wed Nov 11 2026. No macro, syntax, notation, axiom, sorry.
-/
import Derived.Test.YtfekiagdnlnggaaDoorChecked
import GoSem.Claim
import GoSem.ClaimJoined
import GoSem.ClaimMapViews
import Derived.JoinedTies
import Derived.KernelRfl
namespace Go.Proofs.YtfekiagdnlnggaaDoor
/- THE CELL 'sum', in the pinned program and in every row, IS THE sha256 OF THE DUMP (.gsa) THAT YtfekiagdnlnggaaDoorProg.lean LOADS. Nothing in Lean hashes anything: it is a label: what it is worth is what the hold of that sum in a sandbox is worth. -/
noncomputable def Tryd.pinned : Pinned := { name := "ytfekiagdnlnggaadoor", sum := "62e6c9d07db416f24cce891162bcadece89e7529dfe62de5c53066259fc41c86", checked := Tryd.checked }
namespace Rows
def none {H : Type} : Left H := { results := [], args := [] }

/- WHAT THE LISTED PACKAGE-LEVEL VARIABLES READ AS WHEN THE CALL BEGINS. Each datum BY PROGRAM (the guide's laid-datum.mjs) off the statement by which the dump's own 'gosem.cut.vars' lays the variable. In a bare row this is a premise. The card (YtfekiagdnlnggaaDoorCards.lean) ties it to the program's text. -/
def laid_pigeonholes_api_ErrBound {H : Type} : DataW H := .iface "*errors.errorString" (.ptr (.agg [.lit (.string [112, 105, 103, 101, 111, 110, 104, 111, 108, 101, 115, 58, 32, 98, 111, 117, 110, 100])]))
def laid_pigeonholes_api_ErrFull {H : Type} : DataW H := .iface "*errors.errorString" (.ptr (.agg [.lit (.string [112, 105, 103, 101, 111, 110, 104, 111, 108, 101, 115, 58, 32, 102, 117, 108, 108])]))
def laid_pigeonholes_api_ErrSeq {H : Type} : DataW H := .iface "*errors.errorString" (.ptr (.agg [.lit (.string [112, 105, 103, 101, 111, 110, 104, 111, 108, 101, 115, 58, 32, 115, 101, 113])]))
def laid_pigeonholes_api_ErrExist {H : Type} : DataW H := .iface "*errors.errorString" (.ptr (.agg [.lit (.string [112, 105, 103, 101, 111, 110, 104, 111, 108, 101, 115, 58, 32, 101, 120, 105, 115, 116])]))
def laid_errors_errorType {H : Type} : DataW H := .iface "internal/reflectlite.rtype" (.agg [.ptr (.lit (.string [101, 114, 114, 111, 114]))])
def laid_pigeonholes_api_ErrText {H : Type} : DataW H := .iface "*errors.errorString" (.ptr (.agg [.lit (.string [112, 105, 103, 101, 111, 110, 104, 111, 108, 101, 115, 58, 32, 116, 101, 120, 116])]))
def laid_pigeonholes_api_ErrShape {H : Type} : DataW H := .iface "*errors.errorString" (.ptr (.agg [.lit (.string [112, 105, 103, 101, 111, 110, 104, 111, 108, 101, 115, 58, 32, 115, 104, 97, 112, 101])]))
def laid_pigeonholes_api_ErrName {H : Type} : DataW H := .iface "*errors.errorString" (.ptr (.agg [.lit (.string [112, 105, 103, 101, 111, 110, 104, 111, 108, 101, 115, 58, 32, 110, 97, 109, 101])]))
def laid_pigeonholes_api_ErrNone {H : Type} : DataW H := .iface "*errors.errorString" (.ptr (.agg [.lit (.string [112, 105, 103, 101, 111, 110, 104, 111, 108, 101, 115, 58, 32, 110, 111, 110, 101])]))
def laid_pigeonholes_api_ErrDir {H : Type} : DataW H := .iface "*errors.errorString" (.ptr (.agg [.lit (.string [112, 105, 103, 101, 111, 110, 104, 111, 108, 101, 115, 58, 32, 100, 105, 114])]))
def laid_pigeonholes_api_ErrFile {H : Type} : DataW H := .iface "*errors.errorString" (.ptr (.agg [.lit (.string [112, 105, 103, 101, 111, 110, 104, 111, 108, 101, 115, 58, 32, 102, 105, 108, 101])]))
def laid_pigeonholes_api_ErrStale {H : Type} : DataW H := .iface "*errors.errorString" (.ptr (.agg [.lit (.string [112, 105, 103, 101, 111, 110, 104, 111, 108, 101, 115, 58, 32, 115, 116, 97, 108, 101])]))
def laid_pigeonholes_api_ErrHeld {H : Type} : DataW H := .iface "*errors.errorString" (.ptr (.agg [.lit (.string [112, 105, 103, 101, 111, 110, 104, 111, 108, 101, 115, 58, 32, 104, 101, 108, 100])]))
def laid_pigeonholes_api_ErrOld {H : Type} : DataW H := .iface "*errors.errorString" (.ptr (.agg [.lit (.string [112, 105, 103, 101, 111, 110, 104, 111, 108, 101, 115, 58, 32, 111, 108, 100])]))
def laid_pigeonholes_api_ErrGrace {H : Type} : DataW H := .iface "*errors.errorString" (.ptr (.agg [.lit (.string [112, 105, 103, 101, 111, 110, 104, 111, 108, 101, 115, 58, 32, 103, 114, 97, 99, 101])]))
def laid_pigeonholes_api_ErrPower {H : Type} : DataW H := .iface "*errors.errorString" (.ptr (.agg [.lit (.string [112, 105, 103, 101, 111, 110, 104, 111, 108, 101, 115, 58, 32, 112, 111, 119, 101, 114])]))

/-- 'pigeonholeslaw2.TurnGoes': WHATEVER THE INPUT: true; the input reads as it did. -/
def turnGoesSpec : ChangeSpec := { name := "turnGoes", fn := fun _ => fun
  | [d1, d2, d3] => { results := [.lit (.bool true)], args := [d1, d2, d3] }
  | _ => none }
def turnGoesRow : OpenClaim := { program := "ytfekiagdnlnggaadoor", sum := "62e6c9d07db416f24cce891162bcadece89e7529dfe62de5c53066259fc41c86", func := "pigeonholes/pigeonholeslaw2.TurnGoes", spec := "turnGoes", recurses := true, named := ["pigeonholes/api.ErrSeq", "pigeonholes/api.ErrBound", "pigeonholes/api.ErrFull"], plainKeys := false, apart := false, laid := [("pigeonholes/api.ErrBound", laid_pigeonholes_api_ErrBound), ("pigeonholes/api.ErrFull", laid_pigeonholes_api_ErrFull), ("pigeonholes/api.ErrSeq", laid_pigeonholes_api_ErrSeq)] }
def TurnGoesSaid : Prop := turnGoesRow.holds Tryd.pinned (OpenSpec.ofChange turnGoesSpec)

/-- ITS FALSE NEIGHBOUR: 'it returns false'. Refute it at one input. -/
def turnGoesWrong : ChangeSpec := { name := "turnGoes", fn := fun _ => fun
  | [d1, d2, d3] => { results := [.lit (.bool false)], args := [d1, d2, d3] }
  | _ => none }
def TurnGoesWrongFalsely : Prop := turnGoesRow.holds Tryd.pinned (OpenSpec.ofChange turnGoesWrong)

/-- 'pigeonholeslaw3.CacheLast': WHATEVER THE INPUT: true; the input reads as it did. -/
def cacheLastSpec : ChangeSpec := { name := "cacheLast", fn := fun _ => fun
  | [d1, d2, d3] => { results := [.lit (.bool true)], args := [d1, d2, d3] }
  | _ => none }
def cacheLastRow : OpenClaim := { program := "ytfekiagdnlnggaadoor", sum := "62e6c9d07db416f24cce891162bcadece89e7529dfe62de5c53066259fc41c86", func := "pigeonholes/pigeonholeslaw3.CacheLast", spec := "cacheLast", recurses := true, named := ["pigeonholes/api.ErrBound", "pigeonholes/api.ErrExist", "pigeonholes/api.ErrSeq"], plainKeys := false, apart := false, laid := [("pigeonholes/api.ErrBound", laid_pigeonholes_api_ErrBound), ("pigeonholes/api.ErrExist", laid_pigeonholes_api_ErrExist), ("pigeonholes/api.ErrSeq", laid_pigeonholes_api_ErrSeq)] }
def CacheLastSaid : Prop := cacheLastRow.holds Tryd.pinned (OpenSpec.ofChange cacheLastSpec)

/-- ITS FALSE NEIGHBOUR: 'it returns false'. Refute it at one input. -/
def cacheLastWrong : ChangeSpec := { name := "cacheLast", fn := fun _ => fun
  | [d1, d2, d3] => { results := [.lit (.bool false)], args := [d1, d2, d3] }
  | _ => none }
def CacheLastWrongFalsely : Prop := cacheLastRow.holds Tryd.pinned (OpenSpec.ofChange cacheLastWrong)

/-- 'pigeonholeslaw1.DataKeeps': WHATEVER THE INPUT: true; the input reads as it did. -/
def dataKeepsSpec : ChangeSpec := { name := "dataKeeps", fn := fun _ => fun
  | [d1, d2, d3, d4] => { results := [.lit (.bool true)], args := [d1, d2, d3, d4] }
  | _ => none }
def dataKeepsRow : OpenClaim := { program := "ytfekiagdnlnggaadoor", sum := "62e6c9d07db416f24cce891162bcadece89e7529dfe62de5c53066259fc41c86", func := "pigeonholes/pigeonholeslaw1.DataKeeps", spec := "dataKeeps", unfollowed := true, recurses := true, named := ["pigeonholes/api.ErrBound"], plainKeys := false, apart := false, laid := [("pigeonholes/api.ErrBound", laid_pigeonholes_api_ErrBound)] }
def DataKeepsSaid : Prop := dataKeepsRow.holds Tryd.pinned (OpenSpec.ofChange dataKeepsSpec)

/-- ITS FALSE NEIGHBOUR: 'it returns false'. Refute it at one input. -/
def dataKeepsWrong : ChangeSpec := { name := "dataKeeps", fn := fun _ => fun
  | [d1, d2, d3, d4] => { results := [.lit (.bool false)], args := [d1, d2, d3, d4] }
  | _ => none }
def DataKeepsWrongFalsely : Prop := dataKeepsRow.holds Tryd.pinned (OpenSpec.ofChange dataKeepsWrong)

/-- 'pigeonholeslaw1.Names': WHATEVER THE INPUT: true; the input reads as it did. -/
def namesSpec : ChangeSpec := { name := "names", fn := fun _ => fun
  | [] => { results := [.lit (.bool true)], args := [] }
  | _ => none }
def namesRow : OpenClaim := { program := "ytfekiagdnlnggaadoor", sum := "62e6c9d07db416f24cce891162bcadece89e7529dfe62de5c53066259fc41c86", func := "pigeonholes/pigeonholeslaw1.Names", spec := "names", inPlace := ["internal/reflectlite.ValueOf", "(internal/reflectlite.Value).Type", "(internal/reflectlite.Value).IsNil", "internal/reflectlite.TypeOf", "(internal/reflectlite.Value).Elem", "(internal/reflectlite.Value).Set"], unfollowed := true, recurses := true, named := ["pigeonholes/api.ErrText", "pigeonholes/api.ErrBound", "pigeonholes/api.ErrShape", "pigeonholes/api.ErrName", "pigeonholes/api.ErrNone", "pigeonholes/api.ErrExist", "pigeonholes/api.ErrDir", "pigeonholes/api.ErrFile", "pigeonholes/api.ErrFull", "pigeonholes/api.ErrStale", "pigeonholes/api.ErrHeld", "pigeonholes/api.ErrSeq", "pigeonholes/api.ErrOld", "pigeonholes/api.ErrGrace", "pigeonholes/api.ErrPower", "errors.errorType"], plainKeys := false, apart := false, laid := [("errors.errorType", laid_errors_errorType), ("pigeonholes/api.ErrText", laid_pigeonholes_api_ErrText), ("pigeonholes/api.ErrBound", laid_pigeonholes_api_ErrBound), ("pigeonholes/api.ErrShape", laid_pigeonholes_api_ErrShape), ("pigeonholes/api.ErrName", laid_pigeonholes_api_ErrName), ("pigeonholes/api.ErrNone", laid_pigeonholes_api_ErrNone), ("pigeonholes/api.ErrExist", laid_pigeonholes_api_ErrExist), ("pigeonholes/api.ErrDir", laid_pigeonholes_api_ErrDir), ("pigeonholes/api.ErrFile", laid_pigeonholes_api_ErrFile), ("pigeonholes/api.ErrFull", laid_pigeonholes_api_ErrFull), ("pigeonholes/api.ErrStale", laid_pigeonholes_api_ErrStale), ("pigeonholes/api.ErrHeld", laid_pigeonholes_api_ErrHeld), ("pigeonholes/api.ErrSeq", laid_pigeonholes_api_ErrSeq), ("pigeonholes/api.ErrOld", laid_pigeonholes_api_ErrOld), ("pigeonholes/api.ErrGrace", laid_pigeonholes_api_ErrGrace), ("pigeonholes/api.ErrPower", laid_pigeonholes_api_ErrPower)] }
def NamesSaid : Prop := namesRow.holds Tryd.pinned (OpenSpec.ofChange namesSpec)

/-- ITS FALSE NEIGHBOUR: 'it returns false'. Refute it at one input. -/
def namesWrong : ChangeSpec := { name := "names", fn := fun _ => fun
  | [] => { results := [.lit (.bool false)], args := [] }
  | _ => none }
def NamesWrongFalsely : Prop := namesRow.holds Tryd.pinned (OpenSpec.ofChange namesWrong)

/-- 'pigeonholeslaw3.CacheActs': WHATEVER THE INPUT: true; the input reads as it did. -/
def cacheActsSpec : ChangeSpec := { name := "cacheActs", fn := fun _ => fun
  | [d1, d2] => { results := [.lit (.bool true)], args := [d1, d2] }
  | _ => none }
def cacheActsRow : OpenClaim := { program := "ytfekiagdnlnggaadoor", sum := "62e6c9d07db416f24cce891162bcadece89e7529dfe62de5c53066259fc41c86", func := "pigeonholes/pigeonholeslaw3.CacheActs", spec := "cacheActs", inPlace := ["internal/reflectlite.ValueOf", "(internal/reflectlite.Value).Type", "(internal/reflectlite.Value).IsNil", "internal/reflectlite.TypeOf", "(internal/reflectlite.Value).Elem", "(internal/reflectlite.Value).Set"], unfollowed := true, recurses := true, named := ["pigeonholes/api.ErrBound", "pigeonholes/api.ErrExist", "pigeonholes/api.ErrSeq", "pigeonholes/api.ErrText", "pigeonholes/api.ErrShape", "pigeonholes/api.ErrName", "pigeonholes/api.ErrNone", "pigeonholes/api.ErrDir", "pigeonholes/api.ErrFile", "pigeonholes/api.ErrFull", "pigeonholes/api.ErrStale", "pigeonholes/api.ErrHeld", "pigeonholes/api.ErrOld", "pigeonholes/api.ErrGrace", "pigeonholes/api.ErrPower", "errors.errorType"], plainKeys := false, apart := false, laid := [("errors.errorType", laid_errors_errorType), ("pigeonholes/api.ErrText", laid_pigeonholes_api_ErrText), ("pigeonholes/api.ErrBound", laid_pigeonholes_api_ErrBound), ("pigeonholes/api.ErrShape", laid_pigeonholes_api_ErrShape), ("pigeonholes/api.ErrName", laid_pigeonholes_api_ErrName), ("pigeonholes/api.ErrNone", laid_pigeonholes_api_ErrNone), ("pigeonholes/api.ErrExist", laid_pigeonholes_api_ErrExist), ("pigeonholes/api.ErrDir", laid_pigeonholes_api_ErrDir), ("pigeonholes/api.ErrFile", laid_pigeonholes_api_ErrFile), ("pigeonholes/api.ErrFull", laid_pigeonholes_api_ErrFull), ("pigeonholes/api.ErrStale", laid_pigeonholes_api_ErrStale), ("pigeonholes/api.ErrHeld", laid_pigeonholes_api_ErrHeld), ("pigeonholes/api.ErrSeq", laid_pigeonholes_api_ErrSeq), ("pigeonholes/api.ErrOld", laid_pigeonholes_api_ErrOld), ("pigeonholes/api.ErrGrace", laid_pigeonholes_api_ErrGrace), ("pigeonholes/api.ErrPower", laid_pigeonholes_api_ErrPower)] }
def CacheActsSaid : Prop := cacheActsRow.holds Tryd.pinned (OpenSpec.ofChange cacheActsSpec)

/-- ITS FALSE NEIGHBOUR: 'it returns false'. Refute it at one input. -/
def cacheActsWrong : ChangeSpec := { name := "cacheActs", fn := fun _ => fun
  | [d1, d2] => { results := [.lit (.bool false)], args := [d1, d2] }
  | _ => none }
def CacheActsWrongFalsely : Prop := cacheActsRow.holds Tryd.pinned (OpenSpec.ofChange cacheActsWrong)

/-- 'pigeonholeslaw2.TurnActs': WHATEVER THE INPUT: true; the input reads as it did. -/
def turnActsSpec : ChangeSpec := { name := "turnActs", fn := fun _ => fun
  | [d] => { results := [.lit (.bool true)], args := [d] }
  | _ => none }
def turnActsRow : OpenClaim := { program := "ytfekiagdnlnggaadoor", sum := "62e6c9d07db416f24cce891162bcadece89e7529dfe62de5c53066259fc41c86", func := "pigeonholes/pigeonholeslaw2.TurnActs", spec := "turnActs", inPlace := ["internal/reflectlite.ValueOf", "(internal/reflectlite.Value).Type", "(internal/reflectlite.Value).IsNil", "internal/reflectlite.TypeOf", "(internal/reflectlite.Value).Elem", "(internal/reflectlite.Value).Set"], unfollowed := true, recurses := true, named := ["pigeonholes/api.ErrSeq", "pigeonholes/api.ErrBound", "pigeonholes/api.ErrFull", "pigeonholes/api.ErrText", "pigeonholes/api.ErrShape", "pigeonholes/api.ErrName", "pigeonholes/api.ErrNone", "pigeonholes/api.ErrExist", "pigeonholes/api.ErrDir", "pigeonholes/api.ErrFile", "pigeonholes/api.ErrStale", "pigeonholes/api.ErrHeld", "pigeonholes/api.ErrOld", "pigeonholes/api.ErrGrace", "pigeonholes/api.ErrPower", "errors.errorType"], plainKeys := false, apart := false, laid := [("errors.errorType", laid_errors_errorType), ("pigeonholes/api.ErrText", laid_pigeonholes_api_ErrText), ("pigeonholes/api.ErrBound", laid_pigeonholes_api_ErrBound), ("pigeonholes/api.ErrShape", laid_pigeonholes_api_ErrShape), ("pigeonholes/api.ErrName", laid_pigeonholes_api_ErrName), ("pigeonholes/api.ErrNone", laid_pigeonholes_api_ErrNone), ("pigeonholes/api.ErrExist", laid_pigeonholes_api_ErrExist), ("pigeonholes/api.ErrDir", laid_pigeonholes_api_ErrDir), ("pigeonholes/api.ErrFile", laid_pigeonholes_api_ErrFile), ("pigeonholes/api.ErrFull", laid_pigeonholes_api_ErrFull), ("pigeonholes/api.ErrStale", laid_pigeonholes_api_ErrStale), ("pigeonholes/api.ErrHeld", laid_pigeonholes_api_ErrHeld), ("pigeonholes/api.ErrSeq", laid_pigeonholes_api_ErrSeq), ("pigeonholes/api.ErrOld", laid_pigeonholes_api_ErrOld), ("pigeonholes/api.ErrGrace", laid_pigeonholes_api_ErrGrace), ("pigeonholes/api.ErrPower", laid_pigeonholes_api_ErrPower)] }
def TurnActsSaid : Prop := turnActsRow.holds Tryd.pinned (OpenSpec.ofChange turnActsSpec)

/-- ITS FALSE NEIGHBOUR: 'it returns false'. Refute it at one input. -/
def turnActsWrong : ChangeSpec := { name := "turnActs", fn := fun _ => fun
  | [d] => { results := [.lit (.bool false)], args := [d] }
  | _ => none }
def TurnActsWrongFalsely : Prop := turnActsRow.holds Tryd.pinned (OpenSpec.ofChange turnActsWrong)

/-- 'pigeonholeslaw4.DiskKeeps': WHATEVER THE INPUT: true; the input reads as it did. -/
def diskKeepsSpec : ChangeSpec := { name := "diskKeeps", fn := fun _ => fun
  | [d1, d2, d3, d4, d5] => { results := [.lit (.bool true)], args := [d1, d2, d3, d4, d5] }
  | _ => none }
def diskKeepsRow : OpenClaim := { program := "ytfekiagdnlnggaadoor", sum := "62e6c9d07db416f24cce891162bcadece89e7529dfe62de5c53066259fc41c86", func := "pigeonholes/pigeonholeslaw4.DiskKeeps", spec := "diskKeeps", inPlace := ["internal/abi.NoEscape", "internal/bytealg.MakeNoZero"], named := ["pigeonholes/api.ErrBound", "pigeonholes/api.ErrShape", "pigeonholes/api.ErrPower"], plainKeys := false, apart := false, laid := [("pigeonholes/api.ErrBound", laid_pigeonholes_api_ErrBound), ("pigeonholes/api.ErrShape", laid_pigeonholes_api_ErrShape), ("pigeonholes/api.ErrPower", laid_pigeonholes_api_ErrPower)] }
def DiskKeepsSaid : Prop := diskKeepsRow.holds Tryd.pinned (OpenSpec.ofChange diskKeepsSpec)

/-- ITS FALSE NEIGHBOUR: 'it returns false'. Refute it at one input. -/
def diskKeepsWrong : ChangeSpec := { name := "diskKeeps", fn := fun _ => fun
  | [d1, d2, d3, d4, d5] => { results := [.lit (.bool false)], args := [d1, d2, d3, d4, d5] }
  | _ => none }
def DiskKeepsWrongFalsely : Prop := diskKeepsRow.holds Tryd.pinned (OpenSpec.ofChange diskKeepsWrong)

/-- 'pigeonholeslaw1.DataActs': WHATEVER THE INPUT: true; the input reads as it did. -/
def dataActsSpec : ChangeSpec := { name := "dataActs", fn := fun _ => fun
  | [d] => { results := [.lit (.bool true)], args := [d] }
  | _ => none }
def dataActsRow : OpenClaim := { program := "ytfekiagdnlnggaadoor", sum := "62e6c9d07db416f24cce891162bcadece89e7529dfe62de5c53066259fc41c86", func := "pigeonholes/pigeonholeslaw1.DataActs", spec := "dataActs", inPlace := ["internal/reflectlite.ValueOf", "(internal/reflectlite.Value).Type", "(internal/reflectlite.Value).IsNil", "internal/reflectlite.TypeOf", "(internal/reflectlite.Value).Elem", "(internal/reflectlite.Value).Set", "maps.clone"], unfollowed := true, recurses := true, named := ["pigeonholes/api.ErrBound", "pigeonholes/api.ErrText", "pigeonholes/api.ErrShape", "pigeonholes/api.ErrName", "pigeonholes/api.ErrNone", "pigeonholes/api.ErrExist", "pigeonholes/api.ErrDir", "pigeonholes/api.ErrFile", "pigeonholes/api.ErrFull", "pigeonholes/api.ErrStale", "pigeonholes/api.ErrHeld", "pigeonholes/api.ErrSeq", "pigeonholes/api.ErrOld", "pigeonholes/api.ErrGrace", "pigeonholes/api.ErrPower", "errors.errorType"], plainKeys := false, apart := false, laid := [("errors.errorType", laid_errors_errorType), ("pigeonholes/api.ErrText", laid_pigeonholes_api_ErrText), ("pigeonholes/api.ErrBound", laid_pigeonholes_api_ErrBound), ("pigeonholes/api.ErrShape", laid_pigeonholes_api_ErrShape), ("pigeonholes/api.ErrName", laid_pigeonholes_api_ErrName), ("pigeonholes/api.ErrNone", laid_pigeonholes_api_ErrNone), ("pigeonholes/api.ErrExist", laid_pigeonholes_api_ErrExist), ("pigeonholes/api.ErrDir", laid_pigeonholes_api_ErrDir), ("pigeonholes/api.ErrFile", laid_pigeonholes_api_ErrFile), ("pigeonholes/api.ErrFull", laid_pigeonholes_api_ErrFull), ("pigeonholes/api.ErrStale", laid_pigeonholes_api_ErrStale), ("pigeonholes/api.ErrHeld", laid_pigeonholes_api_ErrHeld), ("pigeonholes/api.ErrSeq", laid_pigeonholes_api_ErrSeq), ("pigeonholes/api.ErrOld", laid_pigeonholes_api_ErrOld), ("pigeonholes/api.ErrGrace", laid_pigeonholes_api_ErrGrace), ("pigeonholes/api.ErrPower", laid_pigeonholes_api_ErrPower)] }
def DataActsSaid : Prop := dataActsRow.holds Tryd.pinned (OpenSpec.ofChange dataActsSpec)

/-- ITS FALSE NEIGHBOUR: 'it returns false'. Refute it at one input. -/
def dataActsWrong : ChangeSpec := { name := "dataActs", fn := fun _ => fun
  | [d] => { results := [.lit (.bool false)], args := [d] }
  | _ => none }
def DataActsWrongFalsely : Prop := dataActsRow.holds Tryd.pinned (OpenSpec.ofChange dataActsWrong)

/-- 'pigeonholeslaw4.DiskActs': WHATEVER THE INPUT: true; the input reads as it did. -/
def diskActsSpec : ChangeSpec := { name := "diskActs", fn := fun _ => fun
  | [d1, d2, d3] => { results := [.lit (.bool true)], args := [d1, d2, d3] }
  | _ => none }
def diskActsRow : OpenClaim := { program := "ytfekiagdnlnggaadoor", sum := "62e6c9d07db416f24cce891162bcadece89e7529dfe62de5c53066259fc41c86", func := "pigeonholes/pigeonholeslaw4.DiskActs", spec := "diskActs", inPlace := ["internal/abi.NoEscape", "internal/bytealg.MakeNoZero", "internal/reflectlite.ValueOf", "(internal/reflectlite.Value).Type", "(internal/reflectlite.Value).IsNil", "internal/reflectlite.TypeOf", "(internal/reflectlite.Value).Elem", "(internal/reflectlite.Value).Set"], unfollowed := true, recurses := true, named := ["pigeonholes/api.ErrBound", "pigeonholes/api.ErrShape", "pigeonholes/api.ErrPower", "pigeonholes/api.ErrText", "pigeonholes/api.ErrName", "pigeonholes/api.ErrNone", "pigeonholes/api.ErrExist", "pigeonholes/api.ErrDir", "pigeonholes/api.ErrFile", "pigeonholes/api.ErrFull", "pigeonholes/api.ErrStale", "pigeonholes/api.ErrHeld", "pigeonholes/api.ErrSeq", "pigeonholes/api.ErrOld", "pigeonholes/api.ErrGrace", "errors.errorType"], plainKeys := false, apart := false, laid := [("errors.errorType", laid_errors_errorType), ("pigeonholes/api.ErrText", laid_pigeonholes_api_ErrText), ("pigeonholes/api.ErrBound", laid_pigeonholes_api_ErrBound), ("pigeonholes/api.ErrShape", laid_pigeonholes_api_ErrShape), ("pigeonholes/api.ErrName", laid_pigeonholes_api_ErrName), ("pigeonholes/api.ErrNone", laid_pigeonholes_api_ErrNone), ("pigeonholes/api.ErrExist", laid_pigeonholes_api_ErrExist), ("pigeonholes/api.ErrDir", laid_pigeonholes_api_ErrDir), ("pigeonholes/api.ErrFile", laid_pigeonholes_api_ErrFile), ("pigeonholes/api.ErrFull", laid_pigeonholes_api_ErrFull), ("pigeonholes/api.ErrStale", laid_pigeonholes_api_ErrStale), ("pigeonholes/api.ErrHeld", laid_pigeonholes_api_ErrHeld), ("pigeonholes/api.ErrSeq", laid_pigeonholes_api_ErrSeq), ("pigeonholes/api.ErrOld", laid_pigeonholes_api_ErrOld), ("pigeonholes/api.ErrGrace", laid_pigeonholes_api_ErrGrace), ("pigeonholes/api.ErrPower", laid_pigeonholes_api_ErrPower)] }
def DiskActsSaid : Prop := diskActsRow.holds Tryd.pinned (OpenSpec.ofChange diskActsSpec)

/-- ITS FALSE NEIGHBOUR: 'it returns false'. Refute it at one input. -/
def diskActsWrong : ChangeSpec := { name := "diskActs", fn := fun _ => fun
  | [d1, d2, d3] => { results := [.lit (.bool false)], args := [d1, d2, d3] }
  | _ => none }
def DiskActsWrongFalsely : Prop := diskActsRow.holds Tryd.pinned (OpenSpec.ofChange diskActsWrong)

/-- 'pigeonholeslaw3.NetActs': WHATEVER THE INPUT: true; the input reads as it did. -/
def netActsSpec : ChangeSpec := { name := "netActs", fn := fun _ => fun
  | [d] => { results := [.lit (.bool true)], args := [d] }
  | _ => none }
def netActsRow : OpenClaim := { program := "ytfekiagdnlnggaadoor", sum := "62e6c9d07db416f24cce891162bcadece89e7529dfe62de5c53066259fc41c86", func := "pigeonholes/pigeonholeslaw3.NetActs", spec := "netActs", inPlace := ["internal/reflectlite.ValueOf", "(internal/reflectlite.Value).Type", "(internal/reflectlite.Value).IsNil", "internal/reflectlite.TypeOf", "(internal/reflectlite.Value).Elem", "(internal/reflectlite.Value).Set", "slices.overlaps[pigeonholes/net.Message]"], unfollowed := true, recurses := true, named := ["pigeonholes/api.ErrName", "pigeonholes/api.ErrBound", "pigeonholes/api.ErrFull", "pigeonholes/api.ErrText", "pigeonholes/api.ErrShape", "pigeonholes/api.ErrNone", "pigeonholes/api.ErrExist", "pigeonholes/api.ErrDir", "pigeonholes/api.ErrFile", "pigeonholes/api.ErrStale", "pigeonholes/api.ErrHeld", "pigeonholes/api.ErrSeq", "pigeonholes/api.ErrOld", "pigeonholes/api.ErrGrace", "pigeonholes/api.ErrPower", "errors.errorType"], plainKeys := false, apart := false, laid := [("errors.errorType", laid_errors_errorType), ("pigeonholes/api.ErrText", laid_pigeonholes_api_ErrText), ("pigeonholes/api.ErrBound", laid_pigeonholes_api_ErrBound), ("pigeonholes/api.ErrShape", laid_pigeonholes_api_ErrShape), ("pigeonholes/api.ErrName", laid_pigeonholes_api_ErrName), ("pigeonholes/api.ErrNone", laid_pigeonholes_api_ErrNone), ("pigeonholes/api.ErrExist", laid_pigeonholes_api_ErrExist), ("pigeonholes/api.ErrDir", laid_pigeonholes_api_ErrDir), ("pigeonholes/api.ErrFile", laid_pigeonholes_api_ErrFile), ("pigeonholes/api.ErrFull", laid_pigeonholes_api_ErrFull), ("pigeonholes/api.ErrStale", laid_pigeonholes_api_ErrStale), ("pigeonholes/api.ErrHeld", laid_pigeonholes_api_ErrHeld), ("pigeonholes/api.ErrSeq", laid_pigeonholes_api_ErrSeq), ("pigeonholes/api.ErrOld", laid_pigeonholes_api_ErrOld), ("pigeonholes/api.ErrGrace", laid_pigeonholes_api_ErrGrace), ("pigeonholes/api.ErrPower", laid_pigeonholes_api_ErrPower)] }
def NetActsSaid : Prop := netActsRow.holds Tryd.pinned (OpenSpec.ofChange netActsSpec)

/-- ITS FALSE NEIGHBOUR: 'it returns false'. Refute it at one input. -/
def netActsWrong : ChangeSpec := { name := "netActs", fn := fun _ => fun
  | [d] => { results := [.lit (.bool false)], args := [d] }
  | _ => none }
def NetActsWrongFalsely : Prop := netActsRow.holds Tryd.pinned (OpenSpec.ofChange netActsWrong)

/- THE SECOND FORM. 'bulk': how many values and letters a reading holds, each counted each time it is reached (what is shared counts as often as it is met; a slice's spare places count too). A statement '..UptoSaid' is the law's where the arguments, and the package variables that the reading takes, are together of bulk at most 1048576: NARROWER than '..Said'. Prove '..Said' where nothing that the law and all that it calls make is longer than what came in: it says more and counts as full. Else prove '..UptoSaid'. A law counts once. -/
mutual
def uptoBulk {H : Type} : DataW H → Nat
  | .lit (.string bytes) => bytes.length + 1
  | .lit _ => 1
  | .nil => 1
  | .ptr d => uptoBulk d + 1
  | .slice elems spare => uptoBulkAll elems + uptoBulkAll spare + 1
  | .agg parts => uptoBulkAll parts + 1
  | .iface _ d => uptoBulk d + 1
  | .map entries => uptoBulkEntries entries + 1
  | .held _ => 1
def uptoBulkAll {H : Type} : List (DataW H) → Nat
  | [] => 0
  | d :: r => uptoBulk d + uptoBulkAll r
def uptoBulkEntries {H : Type} : List (Lit × DataW H) → Nat
  | [] => 0
  | x :: r => uptoBulkEntry x + uptoBulkEntries r
def uptoBulkEntry {H : Type} : Lit × DataW H → Nat
  | (.string bytes, d) => bytes.length + uptoBulk d + 1
  | (_, d) => uptoBulk d + 1
 end
def uptoSmall : (H : Type) → List (DataW H) → Bool := fun _ ds => decide (uptoBulkAll ds ≤ 1048576)
def OpenSpec.upto (s : _root_.Go.ChangeSpec) : _root_.Go.OpenSpec := { _root_.Go.OpenSpec.ofChange s with cond := some uptoSmall }

/-- 'pigeonholeslaw2.TurnGoes', WHERE WHAT IT READS IS OF BULK AT MOST 1048576: true; the input reads as it did. -/
def turnGoesUptoRow : OpenClaim := { program := "ytfekiagdnlnggaadoor", sum := "62e6c9d07db416f24cce891162bcadece89e7529dfe62de5c53066259fc41c86", func := "pigeonholes/pigeonholeslaw2.TurnGoes", spec := "turnGoes", recurses := true, named := ["pigeonholes/api.ErrSeq", "pigeonholes/api.ErrBound", "pigeonholes/api.ErrFull"], plainKeys := false, apart := false, laid := [("pigeonholes/api.ErrBound", laid_pigeonholes_api_ErrBound), ("pigeonholes/api.ErrFull", laid_pigeonholes_api_ErrFull), ("pigeonholes/api.ErrSeq", laid_pigeonholes_api_ErrSeq)], narrowed := true }
def TurnGoesUptoSaid : Prop := turnGoesUptoRow.holds Tryd.pinned (OpenSpec.upto turnGoesSpec)

/-- 'pigeonholeslaw3.CacheLast', WHERE WHAT IT READS IS OF BULK AT MOST 1048576: true; the input reads as it did. -/
def cacheLastUptoRow : OpenClaim := { program := "ytfekiagdnlnggaadoor", sum := "62e6c9d07db416f24cce891162bcadece89e7529dfe62de5c53066259fc41c86", func := "pigeonholes/pigeonholeslaw3.CacheLast", spec := "cacheLast", recurses := true, named := ["pigeonholes/api.ErrBound", "pigeonholes/api.ErrExist", "pigeonholes/api.ErrSeq"], plainKeys := false, apart := false, laid := [("pigeonholes/api.ErrBound", laid_pigeonholes_api_ErrBound), ("pigeonholes/api.ErrExist", laid_pigeonholes_api_ErrExist), ("pigeonholes/api.ErrSeq", laid_pigeonholes_api_ErrSeq)], narrowed := true }
def CacheLastUptoSaid : Prop := cacheLastUptoRow.holds Tryd.pinned (OpenSpec.upto cacheLastSpec)

/-- 'pigeonholeslaw1.DataKeeps', WHERE WHAT IT READS IS OF BULK AT MOST 1048576: true; the input reads as it did. -/
def dataKeepsUptoRow : OpenClaim := { program := "ytfekiagdnlnggaadoor", sum := "62e6c9d07db416f24cce891162bcadece89e7529dfe62de5c53066259fc41c86", func := "pigeonholes/pigeonholeslaw1.DataKeeps", spec := "dataKeeps", unfollowed := true, recurses := true, named := ["pigeonholes/api.ErrBound"], plainKeys := false, apart := false, laid := [("pigeonholes/api.ErrBound", laid_pigeonholes_api_ErrBound)], narrowed := true }
def DataKeepsUptoSaid : Prop := dataKeepsUptoRow.holds Tryd.pinned (OpenSpec.upto dataKeepsSpec)

/-- 'pigeonholeslaw1.Names', WHERE WHAT IT READS IS OF BULK AT MOST 1048576: true; the input reads as it did. -/
def namesUptoRow : OpenClaim := { program := "ytfekiagdnlnggaadoor", sum := "62e6c9d07db416f24cce891162bcadece89e7529dfe62de5c53066259fc41c86", func := "pigeonholes/pigeonholeslaw1.Names", spec := "names", inPlace := ["internal/reflectlite.ValueOf", "(internal/reflectlite.Value).Type", "(internal/reflectlite.Value).IsNil", "internal/reflectlite.TypeOf", "(internal/reflectlite.Value).Elem", "(internal/reflectlite.Value).Set"], unfollowed := true, recurses := true, named := ["pigeonholes/api.ErrText", "pigeonholes/api.ErrBound", "pigeonholes/api.ErrShape", "pigeonholes/api.ErrName", "pigeonholes/api.ErrNone", "pigeonholes/api.ErrExist", "pigeonholes/api.ErrDir", "pigeonholes/api.ErrFile", "pigeonholes/api.ErrFull", "pigeonholes/api.ErrStale", "pigeonholes/api.ErrHeld", "pigeonholes/api.ErrSeq", "pigeonholes/api.ErrOld", "pigeonholes/api.ErrGrace", "pigeonholes/api.ErrPower", "errors.errorType"], plainKeys := false, apart := false, laid := [("errors.errorType", laid_errors_errorType), ("pigeonholes/api.ErrText", laid_pigeonholes_api_ErrText), ("pigeonholes/api.ErrBound", laid_pigeonholes_api_ErrBound), ("pigeonholes/api.ErrShape", laid_pigeonholes_api_ErrShape), ("pigeonholes/api.ErrName", laid_pigeonholes_api_ErrName), ("pigeonholes/api.ErrNone", laid_pigeonholes_api_ErrNone), ("pigeonholes/api.ErrExist", laid_pigeonholes_api_ErrExist), ("pigeonholes/api.ErrDir", laid_pigeonholes_api_ErrDir), ("pigeonholes/api.ErrFile", laid_pigeonholes_api_ErrFile), ("pigeonholes/api.ErrFull", laid_pigeonholes_api_ErrFull), ("pigeonholes/api.ErrStale", laid_pigeonholes_api_ErrStale), ("pigeonholes/api.ErrHeld", laid_pigeonholes_api_ErrHeld), ("pigeonholes/api.ErrSeq", laid_pigeonholes_api_ErrSeq), ("pigeonholes/api.ErrOld", laid_pigeonholes_api_ErrOld), ("pigeonholes/api.ErrGrace", laid_pigeonholes_api_ErrGrace), ("pigeonholes/api.ErrPower", laid_pigeonholes_api_ErrPower)], narrowed := true }
def NamesUptoSaid : Prop := namesUptoRow.holds Tryd.pinned (OpenSpec.upto namesSpec)

/-- 'pigeonholeslaw3.CacheActs', WHERE WHAT IT READS IS OF BULK AT MOST 1048576: true; the input reads as it did. -/
def cacheActsUptoRow : OpenClaim := { program := "ytfekiagdnlnggaadoor", sum := "62e6c9d07db416f24cce891162bcadece89e7529dfe62de5c53066259fc41c86", func := "pigeonholes/pigeonholeslaw3.CacheActs", spec := "cacheActs", inPlace := ["internal/reflectlite.ValueOf", "(internal/reflectlite.Value).Type", "(internal/reflectlite.Value).IsNil", "internal/reflectlite.TypeOf", "(internal/reflectlite.Value).Elem", "(internal/reflectlite.Value).Set"], unfollowed := true, recurses := true, named := ["pigeonholes/api.ErrBound", "pigeonholes/api.ErrExist", "pigeonholes/api.ErrSeq", "pigeonholes/api.ErrText", "pigeonholes/api.ErrShape", "pigeonholes/api.ErrName", "pigeonholes/api.ErrNone", "pigeonholes/api.ErrDir", "pigeonholes/api.ErrFile", "pigeonholes/api.ErrFull", "pigeonholes/api.ErrStale", "pigeonholes/api.ErrHeld", "pigeonholes/api.ErrOld", "pigeonholes/api.ErrGrace", "pigeonholes/api.ErrPower", "errors.errorType"], plainKeys := false, apart := false, laid := [("errors.errorType", laid_errors_errorType), ("pigeonholes/api.ErrText", laid_pigeonholes_api_ErrText), ("pigeonholes/api.ErrBound", laid_pigeonholes_api_ErrBound), ("pigeonholes/api.ErrShape", laid_pigeonholes_api_ErrShape), ("pigeonholes/api.ErrName", laid_pigeonholes_api_ErrName), ("pigeonholes/api.ErrNone", laid_pigeonholes_api_ErrNone), ("pigeonholes/api.ErrExist", laid_pigeonholes_api_ErrExist), ("pigeonholes/api.ErrDir", laid_pigeonholes_api_ErrDir), ("pigeonholes/api.ErrFile", laid_pigeonholes_api_ErrFile), ("pigeonholes/api.ErrFull", laid_pigeonholes_api_ErrFull), ("pigeonholes/api.ErrStale", laid_pigeonholes_api_ErrStale), ("pigeonholes/api.ErrHeld", laid_pigeonholes_api_ErrHeld), ("pigeonholes/api.ErrSeq", laid_pigeonholes_api_ErrSeq), ("pigeonholes/api.ErrOld", laid_pigeonholes_api_ErrOld), ("pigeonholes/api.ErrGrace", laid_pigeonholes_api_ErrGrace), ("pigeonholes/api.ErrPower", laid_pigeonholes_api_ErrPower)], narrowed := true }
def CacheActsUptoSaid : Prop := cacheActsUptoRow.holds Tryd.pinned (OpenSpec.upto cacheActsSpec)

/-- 'pigeonholeslaw2.TurnActs', WHERE WHAT IT READS IS OF BULK AT MOST 1048576: true; the input reads as it did. -/
def turnActsUptoRow : OpenClaim := { program := "ytfekiagdnlnggaadoor", sum := "62e6c9d07db416f24cce891162bcadece89e7529dfe62de5c53066259fc41c86", func := "pigeonholes/pigeonholeslaw2.TurnActs", spec := "turnActs", inPlace := ["internal/reflectlite.ValueOf", "(internal/reflectlite.Value).Type", "(internal/reflectlite.Value).IsNil", "internal/reflectlite.TypeOf", "(internal/reflectlite.Value).Elem", "(internal/reflectlite.Value).Set"], unfollowed := true, recurses := true, named := ["pigeonholes/api.ErrSeq", "pigeonholes/api.ErrBound", "pigeonholes/api.ErrFull", "pigeonholes/api.ErrText", "pigeonholes/api.ErrShape", "pigeonholes/api.ErrName", "pigeonholes/api.ErrNone", "pigeonholes/api.ErrExist", "pigeonholes/api.ErrDir", "pigeonholes/api.ErrFile", "pigeonholes/api.ErrStale", "pigeonholes/api.ErrHeld", "pigeonholes/api.ErrOld", "pigeonholes/api.ErrGrace", "pigeonholes/api.ErrPower", "errors.errorType"], plainKeys := false, apart := false, laid := [("errors.errorType", laid_errors_errorType), ("pigeonholes/api.ErrText", laid_pigeonholes_api_ErrText), ("pigeonholes/api.ErrBound", laid_pigeonholes_api_ErrBound), ("pigeonholes/api.ErrShape", laid_pigeonholes_api_ErrShape), ("pigeonholes/api.ErrName", laid_pigeonholes_api_ErrName), ("pigeonholes/api.ErrNone", laid_pigeonholes_api_ErrNone), ("pigeonholes/api.ErrExist", laid_pigeonholes_api_ErrExist), ("pigeonholes/api.ErrDir", laid_pigeonholes_api_ErrDir), ("pigeonholes/api.ErrFile", laid_pigeonholes_api_ErrFile), ("pigeonholes/api.ErrFull", laid_pigeonholes_api_ErrFull), ("pigeonholes/api.ErrStale", laid_pigeonholes_api_ErrStale), ("pigeonholes/api.ErrHeld", laid_pigeonholes_api_ErrHeld), ("pigeonholes/api.ErrSeq", laid_pigeonholes_api_ErrSeq), ("pigeonholes/api.ErrOld", laid_pigeonholes_api_ErrOld), ("pigeonholes/api.ErrGrace", laid_pigeonholes_api_ErrGrace), ("pigeonholes/api.ErrPower", laid_pigeonholes_api_ErrPower)], narrowed := true }
def TurnActsUptoSaid : Prop := turnActsUptoRow.holds Tryd.pinned (OpenSpec.upto turnActsSpec)

/-- 'pigeonholeslaw4.DiskKeeps', WHERE WHAT IT READS IS OF BULK AT MOST 1048576: true; the input reads as it did. -/
def diskKeepsUptoRow : OpenClaim := { program := "ytfekiagdnlnggaadoor", sum := "62e6c9d07db416f24cce891162bcadece89e7529dfe62de5c53066259fc41c86", func := "pigeonholes/pigeonholeslaw4.DiskKeeps", spec := "diskKeeps", inPlace := ["internal/abi.NoEscape", "internal/bytealg.MakeNoZero"], named := ["pigeonholes/api.ErrBound", "pigeonholes/api.ErrShape", "pigeonholes/api.ErrPower"], plainKeys := false, apart := false, laid := [("pigeonholes/api.ErrBound", laid_pigeonholes_api_ErrBound), ("pigeonholes/api.ErrShape", laid_pigeonholes_api_ErrShape), ("pigeonholes/api.ErrPower", laid_pigeonholes_api_ErrPower)], narrowed := true }
def DiskKeepsUptoSaid : Prop := diskKeepsUptoRow.holds Tryd.pinned (OpenSpec.upto diskKeepsSpec)

/-- 'pigeonholeslaw1.DataActs', WHERE WHAT IT READS IS OF BULK AT MOST 1048576: true; the input reads as it did. -/
def dataActsUptoRow : OpenClaim := { program := "ytfekiagdnlnggaadoor", sum := "62e6c9d07db416f24cce891162bcadece89e7529dfe62de5c53066259fc41c86", func := "pigeonholes/pigeonholeslaw1.DataActs", spec := "dataActs", inPlace := ["internal/reflectlite.ValueOf", "(internal/reflectlite.Value).Type", "(internal/reflectlite.Value).IsNil", "internal/reflectlite.TypeOf", "(internal/reflectlite.Value).Elem", "(internal/reflectlite.Value).Set", "maps.clone"], unfollowed := true, recurses := true, named := ["pigeonholes/api.ErrBound", "pigeonholes/api.ErrText", "pigeonholes/api.ErrShape", "pigeonholes/api.ErrName", "pigeonholes/api.ErrNone", "pigeonholes/api.ErrExist", "pigeonholes/api.ErrDir", "pigeonholes/api.ErrFile", "pigeonholes/api.ErrFull", "pigeonholes/api.ErrStale", "pigeonholes/api.ErrHeld", "pigeonholes/api.ErrSeq", "pigeonholes/api.ErrOld", "pigeonholes/api.ErrGrace", "pigeonholes/api.ErrPower", "errors.errorType"], plainKeys := false, apart := false, laid := [("errors.errorType", laid_errors_errorType), ("pigeonholes/api.ErrText", laid_pigeonholes_api_ErrText), ("pigeonholes/api.ErrBound", laid_pigeonholes_api_ErrBound), ("pigeonholes/api.ErrShape", laid_pigeonholes_api_ErrShape), ("pigeonholes/api.ErrName", laid_pigeonholes_api_ErrName), ("pigeonholes/api.ErrNone", laid_pigeonholes_api_ErrNone), ("pigeonholes/api.ErrExist", laid_pigeonholes_api_ErrExist), ("pigeonholes/api.ErrDir", laid_pigeonholes_api_ErrDir), ("pigeonholes/api.ErrFile", laid_pigeonholes_api_ErrFile), ("pigeonholes/api.ErrFull", laid_pigeonholes_api_ErrFull), ("pigeonholes/api.ErrStale", laid_pigeonholes_api_ErrStale), ("pigeonholes/api.ErrHeld", laid_pigeonholes_api_ErrHeld), ("pigeonholes/api.ErrSeq", laid_pigeonholes_api_ErrSeq), ("pigeonholes/api.ErrOld", laid_pigeonholes_api_ErrOld), ("pigeonholes/api.ErrGrace", laid_pigeonholes_api_ErrGrace), ("pigeonholes/api.ErrPower", laid_pigeonholes_api_ErrPower)], narrowed := true }
def DataActsUptoSaid : Prop := dataActsUptoRow.holds Tryd.pinned (OpenSpec.upto dataActsSpec)

/-- 'pigeonholeslaw4.DiskActs', WHERE WHAT IT READS IS OF BULK AT MOST 1048576: true; the input reads as it did. -/
def diskActsUptoRow : OpenClaim := { program := "ytfekiagdnlnggaadoor", sum := "62e6c9d07db416f24cce891162bcadece89e7529dfe62de5c53066259fc41c86", func := "pigeonholes/pigeonholeslaw4.DiskActs", spec := "diskActs", inPlace := ["internal/abi.NoEscape", "internal/bytealg.MakeNoZero", "internal/reflectlite.ValueOf", "(internal/reflectlite.Value).Type", "(internal/reflectlite.Value).IsNil", "internal/reflectlite.TypeOf", "(internal/reflectlite.Value).Elem", "(internal/reflectlite.Value).Set"], unfollowed := true, recurses := true, named := ["pigeonholes/api.ErrBound", "pigeonholes/api.ErrShape", "pigeonholes/api.ErrPower", "pigeonholes/api.ErrText", "pigeonholes/api.ErrName", "pigeonholes/api.ErrNone", "pigeonholes/api.ErrExist", "pigeonholes/api.ErrDir", "pigeonholes/api.ErrFile", "pigeonholes/api.ErrFull", "pigeonholes/api.ErrStale", "pigeonholes/api.ErrHeld", "pigeonholes/api.ErrSeq", "pigeonholes/api.ErrOld", "pigeonholes/api.ErrGrace", "errors.errorType"], plainKeys := false, apart := false, laid := [("errors.errorType", laid_errors_errorType), ("pigeonholes/api.ErrText", laid_pigeonholes_api_ErrText), ("pigeonholes/api.ErrBound", laid_pigeonholes_api_ErrBound), ("pigeonholes/api.ErrShape", laid_pigeonholes_api_ErrShape), ("pigeonholes/api.ErrName", laid_pigeonholes_api_ErrName), ("pigeonholes/api.ErrNone", laid_pigeonholes_api_ErrNone), ("pigeonholes/api.ErrExist", laid_pigeonholes_api_ErrExist), ("pigeonholes/api.ErrDir", laid_pigeonholes_api_ErrDir), ("pigeonholes/api.ErrFile", laid_pigeonholes_api_ErrFile), ("pigeonholes/api.ErrFull", laid_pigeonholes_api_ErrFull), ("pigeonholes/api.ErrStale", laid_pigeonholes_api_ErrStale), ("pigeonholes/api.ErrHeld", laid_pigeonholes_api_ErrHeld), ("pigeonholes/api.ErrSeq", laid_pigeonholes_api_ErrSeq), ("pigeonholes/api.ErrOld", laid_pigeonholes_api_ErrOld), ("pigeonholes/api.ErrGrace", laid_pigeonholes_api_ErrGrace), ("pigeonholes/api.ErrPower", laid_pigeonholes_api_ErrPower)], narrowed := true }
def DiskActsUptoSaid : Prop := diskActsUptoRow.holds Tryd.pinned (OpenSpec.upto diskActsSpec)

/-- 'pigeonholeslaw3.NetActs', WHERE WHAT IT READS IS OF BULK AT MOST 1048576: true; the input reads as it did. -/
def netActsUptoRow : OpenClaim := { program := "ytfekiagdnlnggaadoor", sum := "62e6c9d07db416f24cce891162bcadece89e7529dfe62de5c53066259fc41c86", func := "pigeonholes/pigeonholeslaw3.NetActs", spec := "netActs", inPlace := ["internal/reflectlite.ValueOf", "(internal/reflectlite.Value).Type", "(internal/reflectlite.Value).IsNil", "internal/reflectlite.TypeOf", "(internal/reflectlite.Value).Elem", "(internal/reflectlite.Value).Set", "slices.overlaps[pigeonholes/net.Message]"], unfollowed := true, recurses := true, named := ["pigeonholes/api.ErrName", "pigeonholes/api.ErrBound", "pigeonholes/api.ErrFull", "pigeonholes/api.ErrText", "pigeonholes/api.ErrShape", "pigeonholes/api.ErrNone", "pigeonholes/api.ErrExist", "pigeonholes/api.ErrDir", "pigeonholes/api.ErrFile", "pigeonholes/api.ErrStale", "pigeonholes/api.ErrHeld", "pigeonholes/api.ErrSeq", "pigeonholes/api.ErrOld", "pigeonholes/api.ErrGrace", "pigeonholes/api.ErrPower", "errors.errorType"], plainKeys := false, apart := false, laid := [("errors.errorType", laid_errors_errorType), ("pigeonholes/api.ErrText", laid_pigeonholes_api_ErrText), ("pigeonholes/api.ErrBound", laid_pigeonholes_api_ErrBound), ("pigeonholes/api.ErrShape", laid_pigeonholes_api_ErrShape), ("pigeonholes/api.ErrName", laid_pigeonholes_api_ErrName), ("pigeonholes/api.ErrNone", laid_pigeonholes_api_ErrNone), ("pigeonholes/api.ErrExist", laid_pigeonholes_api_ErrExist), ("pigeonholes/api.ErrDir", laid_pigeonholes_api_ErrDir), ("pigeonholes/api.ErrFile", laid_pigeonholes_api_ErrFile), ("pigeonholes/api.ErrFull", laid_pigeonholes_api_ErrFull), ("pigeonholes/api.ErrStale", laid_pigeonholes_api_ErrStale), ("pigeonholes/api.ErrHeld", laid_pigeonholes_api_ErrHeld), ("pigeonholes/api.ErrSeq", laid_pigeonholes_api_ErrSeq), ("pigeonholes/api.ErrOld", laid_pigeonholes_api_ErrOld), ("pigeonholes/api.ErrGrace", laid_pigeonholes_api_ErrGrace), ("pigeonholes/api.ErrPower", laid_pigeonholes_api_ErrPower)], narrowed := true }
def NetActsUptoSaid : Prop := netActsUptoRow.holds Tryd.pinned (OpenSpec.upto netActsSpec)

end Rows
end Go.Proofs.YtfekiagdnlnggaaDoor
