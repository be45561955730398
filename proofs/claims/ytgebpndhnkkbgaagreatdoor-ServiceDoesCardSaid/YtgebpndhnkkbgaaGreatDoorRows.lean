/-
  NARROWER THAN 'FOR EVERY INPUT', by the rows' own cells (each row's printed sentence says how): ServiceDoes: laid · ServiceApplies: laid · ServiceOnce: laid · ServiceKeeps: laid.
  DERIVED. THE GIVEN ROWS OF THIS SEAT. 4 by the template 'for every input the law returns true; each argument reads behind the call as it read before'; 0 by the template 'total and deterministic' (their statements: YtgebpndhnkkbgaaGreatDoorTotals.lean).
  GIVEN WITH THE SEED: the statements are not yours to turn. If you find one false, say at which input.
  Laid BY PROGRAM, IN A SANDBOX (cutbox-rows.mjs): the forced cells as the released guide's own fill.sh prints them over the translation b817a1d2a8b80808… (all of the seat's roots in one cut). By AI agents, Wed Nov 11 2026. No macro, syntax, notation, axiom, sorry.
-/
import Derived.Test.YtgebpndhnkkbgaaGreatDoorChecked
import GoSem.Claim
import GoSem.ClaimJoined
import GoSem.ClaimMapViews
import Derived.JoinedTies
import Derived.KernelRfl
namespace Go.Proofs.YtgebpndhnkkbgaaGreatDoor
/- THE CELL 'sum', in the pinned program and in every row, IS THE sha256 OF THE DUMP (.gsa) THAT YtgebpndhnkkbgaaGreatDoorProg.lean LOADS. Nothing in Lean hashes anything: it is a label: what it is worth is what the hold of that sum in a sandbox is worth. -/
noncomputable def Tryz.pinned : Pinned := { name := "ytgebpndhnkkbgaagreatdoor", sum := "b817a1d2a8b8080831491d44f0c2450bbd63055da98d52ff241ab665ae3b47ff", checked := Tryz.checked }
namespace Rows
def none {H : Type} : Left H := { results := [], args := [] }

/- WHAT THE LISTED PACKAGE-LEVEL VARIABLES READ AS WHEN THE CALL BEGINS. Each datum BY PROGRAM (the guide's laid-datum.mjs) off the statement by which the dump's own 'gosem.cut.vars' lays the variable. In a bare row this is a premise. The card (YtgebpndhnkkbgaaGreatDoorCards.lean) ties it to the program's text. -/
def laid_errors_errorType {H : Type} : DataW H := .iface "internal/reflectlite.rtype" (.agg [.ptr (.lit (.string [101, 114, 114, 111, 114]))])

/-- 'rubatolaw33.ServiceDoes': WHATEVER THE INPUT: true; the input reads as it did. -/
def serviceDoesSpec : ChangeSpec := { name := "serviceDoes", fn := fun _ => fun
  | [d1, d2] => { results := [.lit (.bool true)], args := [d1, d2] }
  | _ => none }
def serviceDoesRow : OpenClaim := { program := "ytgebpndhnkkbgaagreatdoor", sum := "b817a1d2a8b8080831491d44f0c2450bbd63055da98d52ff241ab665ae3b47ff", func := "rubato/rubatolaw33.ServiceDoes", spec := "serviceDoes", inPlace := ["internal/abi.NoEscape", "internal/reflectlite.ValueOf", "(internal/reflectlite.Value).Type", "(internal/reflectlite.Value).IsNil", "internal/reflectlite.TypeOf", "(internal/reflectlite.Value).Elem", "(internal/reflectlite.Value).Set", "slices.overlaps[rubato/api.Item]", "slices.overlaps[rubato/api.Session]"], unfollowed := true, recurses := true, named := ["errors.errorType"], apart := false, laid := [("errors.errorType", laid_errors_errorType)] }
def ServiceDoesSaid : Prop := serviceDoesRow.holds Tryz.pinned (OpenSpec.ofChange serviceDoesSpec)

/-- ITS FALSE NEIGHBOUR: 'it returns false'. Refute it at one input. -/
def serviceDoesWrong : ChangeSpec := { name := "serviceDoes", fn := fun _ => fun
  | [d1, d2] => { results := [.lit (.bool false)], args := [d1, d2] }
  | _ => none }
def ServiceDoesWrongFalsely : Prop := serviceDoesRow.holds Tryz.pinned (OpenSpec.ofChange serviceDoesWrong)

/-- 'rubatolaw33.ServiceApplies': WHATEVER THE INPUT: true; the input reads as it did. -/
def serviceAppliesSpec : ChangeSpec := { name := "serviceApplies", fn := fun _ => fun
  | [d1, d2, d3] => { results := [.lit (.bool true)], args := [d1, d2, d3] }
  | _ => none }
def serviceAppliesRow : OpenClaim := { program := "ytgebpndhnkkbgaagreatdoor", sum := "b817a1d2a8b8080831491d44f0c2450bbd63055da98d52ff241ab665ae3b47ff", func := "rubato/rubatolaw33.ServiceApplies", spec := "serviceApplies", inPlace := ["internal/abi.NoEscape", "internal/reflectlite.ValueOf", "(internal/reflectlite.Value).Type", "(internal/reflectlite.Value).IsNil", "internal/reflectlite.TypeOf", "(internal/reflectlite.Value).Elem", "(internal/reflectlite.Value).Set", "slices.overlaps[rubato/api.Item]", "slices.overlaps[rubato/api.Session]"], unfollowed := true, recurses := true, named := ["errors.errorType"], apart := false, laid := [("errors.errorType", laid_errors_errorType)] }
def ServiceAppliesSaid : Prop := serviceAppliesRow.holds Tryz.pinned (OpenSpec.ofChange serviceAppliesSpec)

/-- ITS FALSE NEIGHBOUR: 'it returns false'. Refute it at one input. -/
def serviceAppliesWrong : ChangeSpec := { name := "serviceApplies", fn := fun _ => fun
  | [d1, d2, d3] => { results := [.lit (.bool false)], args := [d1, d2, d3] }
  | _ => none }
def ServiceAppliesWrongFalsely : Prop := serviceAppliesRow.holds Tryz.pinned (OpenSpec.ofChange serviceAppliesWrong)

/-- 'rubatolaw33.ServiceOnce': WHATEVER THE INPUT: true; the input reads as it did. -/
def serviceOnceSpec : ChangeSpec := { name := "serviceOnce", fn := fun _ => fun
  | [d1, d2] => { results := [.lit (.bool true)], args := [d1, d2] }
  | _ => none }
def serviceOnceRow : OpenClaim := { program := "ytgebpndhnkkbgaagreatdoor", sum := "b817a1d2a8b8080831491d44f0c2450bbd63055da98d52ff241ab665ae3b47ff", func := "rubato/rubatolaw33.ServiceOnce", spec := "serviceOnce", inPlace := ["internal/abi.NoEscape", "internal/reflectlite.ValueOf", "(internal/reflectlite.Value).Type", "(internal/reflectlite.Value).IsNil", "internal/reflectlite.TypeOf", "(internal/reflectlite.Value).Elem", "(internal/reflectlite.Value).Set", "slices.overlaps[rubato/api.Item]", "slices.overlaps[rubato/api.Session]"], unfollowed := true, recurses := true, named := ["errors.errorType"], apart := false, laid := [("errors.errorType", laid_errors_errorType)] }
def ServiceOnceSaid : Prop := serviceOnceRow.holds Tryz.pinned (OpenSpec.ofChange serviceOnceSpec)

/-- ITS FALSE NEIGHBOUR: 'it returns false'. Refute it at one input. -/
def serviceOnceWrong : ChangeSpec := { name := "serviceOnce", fn := fun _ => fun
  | [d1, d2] => { results := [.lit (.bool false)], args := [d1, d2] }
  | _ => none }
def ServiceOnceWrongFalsely : Prop := serviceOnceRow.holds Tryz.pinned (OpenSpec.ofChange serviceOnceWrong)

/-- 'rubatolaw33.ServiceKeeps': WHATEVER THE INPUT: true; the input reads as it did. -/
def serviceKeepsSpec : ChangeSpec := { name := "serviceKeeps", fn := fun _ => fun
  | [d1, d2, d3] => { results := [.lit (.bool true)], args := [d1, d2, d3] }
  | _ => none }
def serviceKeepsRow : OpenClaim := { program := "ytgebpndhnkkbgaagreatdoor", sum := "b817a1d2a8b8080831491d44f0c2450bbd63055da98d52ff241ab665ae3b47ff", func := "rubato/rubatolaw33.ServiceKeeps", spec := "serviceKeeps", inPlace := ["internal/abi.NoEscape", "internal/reflectlite.ValueOf", "(internal/reflectlite.Value).Type", "(internal/reflectlite.Value).IsNil", "internal/reflectlite.TypeOf", "(internal/reflectlite.Value).Elem", "(internal/reflectlite.Value).Set", "slices.overlaps[rubato/api.Item]", "slices.overlaps[rubato/api.Session]"], unfollowed := true, recurses := true, named := ["errors.errorType"], apart := false, laid := [("errors.errorType", laid_errors_errorType)] }
def ServiceKeepsSaid : Prop := serviceKeepsRow.holds Tryz.pinned (OpenSpec.ofChange serviceKeepsSpec)

/-- ITS FALSE NEIGHBOUR: 'it returns false'. Refute it at one input. -/
def serviceKeepsWrong : ChangeSpec := { name := "serviceKeeps", fn := fun _ => fun
  | [d1, d2, d3] => { results := [.lit (.bool false)], args := [d1, d2, d3] }
  | _ => none }
def ServiceKeepsWrongFalsely : Prop := serviceKeepsRow.holds Tryz.pinned (OpenSpec.ofChange serviceKeepsWrong)

/- THE SECOND FORM. 'bulk': how many values and letters a reading holds, each counted each time it is reached (what is shared counts as often as it is met; a slice's spare places count too). A statement '..UptoSaid' is the law's where the arguments, and the package variables that the reading takes, are together of bulk at most 1048576: NARROWER than '..Said'. Prove '..Said' where nothing that the law and all that it calls make is longer than what came in: it says more and counts as full. Else prove '..UptoSaid'. A law counts once. -/
mutual
def uptoBulk {H : Type} : DataW H → Nat
  | .lit (.string bytes) => bytes.length + 1
  | .lit _ => 1
  | .nil => 1
  | .ptr d => uptoBulk d + 1
  | .slice elems spare => uptoBulkAll elems + uptoBulkAll spare + 1
  | .agg parts => uptoBulkAll parts + 1
  | .iface _ d => uptoBulk d + 1
  | .map entries => uptoBulkEntries entries + 1
  | .held _ => 1
def uptoBulkAll {H : Type} : List (DataW H) → Nat
  | [] => 0
  | d :: r => uptoBulk d + uptoBulkAll r
def uptoBulkEntries {H : Type} : List (Lit × DataW H) → Nat
  | [] => 0
  | x :: r => uptoBulkEntry x + uptoBulkEntries r
def uptoBulkEntry {H : Type} : Lit × DataW H → Nat
  | (.string bytes, d) => bytes.length + uptoBulk d + 1
  | (_, d) => uptoBulk d + 1
 end
def uptoSmall : (H : Type) → List (DataW H) → Bool := fun _ ds => decide (uptoBulkAll ds ≤ 1048576)
def OpenSpec.upto (s : _root_.Go.ChangeSpec) : _root_.Go.OpenSpec := { _root_.Go.OpenSpec.ofChange s with cond := some uptoSmall }

/-- 'rubatolaw33.ServiceDoes', WHERE WHAT IT READS IS OF BULK AT MOST 1048576: true; the input reads as it did. -/
def serviceDoesUptoRow : OpenClaim := { program := "ytgebpndhnkkbgaagreatdoor", sum := "b817a1d2a8b8080831491d44f0c2450bbd63055da98d52ff241ab665ae3b47ff", func := "rubato/rubatolaw33.ServiceDoes", spec := "serviceDoes", inPlace := ["internal/abi.NoEscape", "internal/reflectlite.ValueOf", "(internal/reflectlite.Value).Type", "(internal/reflectlite.Value).IsNil", "internal/reflectlite.TypeOf", "(internal/reflectlite.Value).Elem", "(internal/reflectlite.Value).Set", "slices.overlaps[rubato/api.Item]", "slices.overlaps[rubato/api.Session]"], unfollowed := true, recurses := true, named := ["errors.errorType"], apart := false, laid := [("errors.errorType", laid_errors_errorType)], narrowed := true }
def ServiceDoesUptoSaid : Prop := serviceDoesUptoRow.holds Tryz.pinned (OpenSpec.upto serviceDoesSpec)

/-- 'rubatolaw33.ServiceApplies', WHERE WHAT IT READS IS OF BULK AT MOST 1048576: true; the input reads as it did. -/
def serviceAppliesUptoRow : OpenClaim := { program := "ytgebpndhnkkbgaagreatdoor", sum := "b817a1d2a8b8080831491d44f0c2450bbd63055da98d52ff241ab665ae3b47ff", func := "rubato/rubatolaw33.ServiceApplies", spec := "serviceApplies", inPlace := ["internal/abi.NoEscape", "internal/reflectlite.ValueOf", "(internal/reflectlite.Value).Type", "(internal/reflectlite.Value).IsNil", "internal/reflectlite.TypeOf", "(internal/reflectlite.Value).Elem", "(internal/reflectlite.Value).Set", "slices.overlaps[rubato/api.Item]", "slices.overlaps[rubato/api.Session]"], unfollowed := true, recurses := true, named := ["errors.errorType"], apart := false, laid := [("errors.errorType", laid_errors_errorType)], narrowed := true }
def ServiceAppliesUptoSaid : Prop := serviceAppliesUptoRow.holds Tryz.pinned (OpenSpec.upto serviceAppliesSpec)

/-- 'rubatolaw33.ServiceOnce', WHERE WHAT IT READS IS OF BULK AT MOST 1048576: true; the input reads as it did. -/
def serviceOnceUptoRow : OpenClaim := { program := "ytgebpndhnkkbgaagreatdoor", sum := "b817a1d2a8b8080831491d44f0c2450bbd63055da98d52ff241ab665ae3b47ff", func := "rubato/rubatolaw33.ServiceOnce", spec := "serviceOnce", inPlace := ["internal/abi.NoEscape", "internal/reflectlite.ValueOf", "(internal/reflectlite.Value).Type", "(internal/reflectlite.Value).IsNil", "internal/reflectlite.TypeOf", "(internal/reflectlite.Value).Elem", "(internal/reflectlite.Value).Set", "slices.overlaps[rubato/api.Item]", "slices.overlaps[rubato/api.Session]"], unfollowed := true, recurses := true, named := ["errors.errorType"], apart := false, laid := [("errors.errorType", laid_errors_errorType)], narrowed := true }
def ServiceOnceUptoSaid : Prop := serviceOnceUptoRow.holds Tryz.pinned (OpenSpec.upto serviceOnceSpec)

/-- 'rubatolaw33.ServiceKeeps', WHERE WHAT IT READS IS OF BULK AT MOST 1048576: true; the input reads as it did. -/
def serviceKeepsUptoRow : OpenClaim := { program := "ytgebpndhnkkbgaagreatdoor", sum := "b817a1d2a8b8080831491d44f0c2450bbd63055da98d52ff241ab665ae3b47ff", func := "rubato/rubatolaw33.ServiceKeeps", spec := "serviceKeeps", inPlace := ["internal/abi.NoEscape", "internal/reflectlite.ValueOf", "(internal/reflectlite.Value).Type", "(internal/reflectlite.Value).IsNil", "internal/reflectlite.TypeOf", "(internal/reflectlite.Value).Elem", "(internal/reflectlite.Value).Set", "slices.overlaps[rubato/api.Item]", "slices.overlaps[rubato/api.Session]"], unfollowed := true, recurses := true, named := ["errors.errorType"], apart := false, laid := [("errors.errorType", laid_errors_errorType)], narrowed := true }
def ServiceKeepsUptoSaid : Prop := serviceKeepsUptoRow.holds Tryz.pinned (OpenSpec.upto serviceKeepsSpec)

end Rows
end Go.Proofs.YtgebpndhnkkbgaaGreatDoor
