/-
  NARROWER THAN 'FOR EVERY INPUT', by the rows' own cells (each row's printed sentence says how): FailTells: laid · FailCodes: laid · FailTrace: laid · FailNobody: laid.
  DERIVED. THE GIVEN ROWS OF THIS SEAT. 4 by the template 'for every input the law returns true; each argument reads behind the call as it read before'; 0 by the template 'total and deterministic' (their statements: YtffipdfcndbneaaDoorTotals.lean).
  GIVEN WITH THE SEED: the statements are not yours to turn. If you find one false, say at which input.
  Laid BY PROGRAM, IN A SANDBOX (cutbox-rows.mjs): the forced cells as the released guide's own fill.sh prints them over the translation 57451216346fc692… (all of the seat's roots in one cut). By AI agents, Wed Nov 11 2026. No macro, syntax, notation, axiom, sorry.
-/
import Derived.Test.YtffipdfcndbneaaDoorChecked
import GoSem.Claim
import GoSem.ClaimJoined
import GoSem.ClaimMapViews
import Derived.JoinedTies
import Derived.KernelRfl
namespace Go.Proofs.YtffipdfcndbneaaDoor
/- THE CELL 'sum', in the pinned program and in every row, IS THE sha256 OF THE DUMP (.gsa) THAT YtffipdfcndbneaaDoorProg.lean LOADS. Nothing in Lean hashes anything: it is a label: what it is worth is what the hold of that sum in a sandbox is worth. -/
noncomputable def Tryd.pinned : Pinned := { name := "ytffipdfcndbneaadoor", sum := "57451216346fc69278da40cc2d674b2dbbfcbd4a928f61ffc29e518d7933c514", checked := Tryd.checked }
namespace Rows
def none {H : Type} : Left H := { results := [], args := [] }

/- WHAT THE LISTED PACKAGE-LEVEL VARIABLES READ AS WHEN THE CALL BEGINS. Each datum BY PROGRAM (the guide's laid-datum.mjs) off the statement by which the dump's own 'gosem.cut.vars' lays the variable. In a bare row this is a premise. The card (YtffipdfcndbneaaDoorCards.lean) ties it to the program's text. -/
def laid_errors_errorType {H : Type} : DataW H := .iface "internal/reflectlite.rtype" (.agg [.ptr (.lit (.string [101, 114, 114, 111, 114]))])

/-- 'rubatolaw03.FailTells': WHATEVER THE INPUT: true; the input reads as it did. -/
def failTellsSpec : ChangeSpec := { name := "failTells", fn := fun _ => fun
  | [d1, d2, d3] => { results := [.lit (.bool true)], args := [d1, d2, d3] }
  | _ => none }
def failTellsRow : OpenClaim := { program := "ytffipdfcndbneaadoor", sum := "57451216346fc69278da40cc2d674b2dbbfcbd4a928f61ffc29e518d7933c514", func := "rubato/rubatolaw03.FailTells", spec := "failTells", inPlace := ["internal/reflectlite.ValueOf", "(internal/reflectlite.Value).Type", "(internal/reflectlite.Value).IsNil", "internal/reflectlite.TypeOf", "(internal/reflectlite.Value).Elem", "(internal/reflectlite.Value).Set"], unfollowed := true, recurses := true, named := ["errors.errorType"], apart := false, laid := [("errors.errorType", laid_errors_errorType)] }
def FailTellsSaid : Prop := failTellsRow.holds Tryd.pinned (OpenSpec.ofChange failTellsSpec)

/-- ITS FALSE NEIGHBOUR: 'it returns false'. Refute it at one input. -/
def failTellsWrong : ChangeSpec := { name := "failTells", fn := fun _ => fun
  | [d1, d2, d3] => { results := [.lit (.bool false)], args := [d1, d2, d3] }
  | _ => none }
def FailTellsWrongFalsely : Prop := failTellsRow.holds Tryd.pinned (OpenSpec.ofChange failTellsWrong)

/-- 'rubatolaw03.FailCodes': WHATEVER THE INPUT: true; the input reads as it did. -/
def failCodesSpec : ChangeSpec := { name := "failCodes", fn := fun _ => fun
  | [d1, d2, d3] => { results := [.lit (.bool true)], args := [d1, d2, d3] }
  | _ => none }
def failCodesRow : OpenClaim := { program := "ytffipdfcndbneaadoor", sum := "57451216346fc69278da40cc2d674b2dbbfcbd4a928f61ffc29e518d7933c514", func := "rubato/rubatolaw03.FailCodes", spec := "failCodes", inPlace := ["internal/reflectlite.ValueOf", "(internal/reflectlite.Value).Type", "(internal/reflectlite.Value).IsNil", "internal/reflectlite.TypeOf", "(internal/reflectlite.Value).Elem", "(internal/reflectlite.Value).Set"], unfollowed := true, recurses := true, named := ["errors.errorType"], apart := false, laid := [("errors.errorType", laid_errors_errorType)] }
def FailCodesSaid : Prop := failCodesRow.holds Tryd.pinned (OpenSpec.ofChange failCodesSpec)

/-- ITS FALSE NEIGHBOUR: 'it returns false'. Refute it at one input. -/
def failCodesWrong : ChangeSpec := { name := "failCodes", fn := fun _ => fun
  | [d1, d2, d3] => { results := [.lit (.bool false)], args := [d1, d2, d3] }
  | _ => none }
def FailCodesWrongFalsely : Prop := failCodesRow.holds Tryd.pinned (OpenSpec.ofChange failCodesWrong)

/-- 'rubatolaw03.FailTrace': WHATEVER THE INPUT: true; the input reads as it did. -/
def failTraceSpec : ChangeSpec := { name := "failTrace", fn := fun _ => fun
  | [d1, d2] => { results := [.lit (.bool true)], args := [d1, d2] }
  | _ => none }
def failTraceRow : OpenClaim := { program := "ytffipdfcndbneaadoor", sum := "57451216346fc69278da40cc2d674b2dbbfcbd4a928f61ffc29e518d7933c514", func := "rubato/rubatolaw03.FailTrace", spec := "failTrace", inPlace := ["internal/reflectlite.ValueOf", "(internal/reflectlite.Value).Type", "(internal/reflectlite.Value).IsNil", "internal/reflectlite.TypeOf", "(internal/reflectlite.Value).Elem", "(internal/reflectlite.Value).Set"], unfollowed := true, recurses := true, named := ["errors.errorType"], apart := false, laid := [("errors.errorType", laid_errors_errorType)] }
def FailTraceSaid : Prop := failTraceRow.holds Tryd.pinned (OpenSpec.ofChange failTraceSpec)

/-- ITS FALSE NEIGHBOUR: 'it returns false'. Refute it at one input. -/
def failTraceWrong : ChangeSpec := { name := "failTrace", fn := fun _ => fun
  | [d1, d2] => { results := [.lit (.bool false)], args := [d1, d2] }
  | _ => none }
def FailTraceWrongFalsely : Prop := failTraceRow.holds Tryd.pinned (OpenSpec.ofChange failTraceWrong)

/-- 'rubatolaw03.FailNobody': WHATEVER THE INPUT: true; the input reads as it did. -/
def failNobodySpec : ChangeSpec := { name := "failNobody", fn := fun _ => fun
  | [d] => { results := [.lit (.bool true)], args := [d] }
  | _ => none }
def failNobodyRow : OpenClaim := { program := "ytffipdfcndbneaadoor", sum := "57451216346fc69278da40cc2d674b2dbbfcbd4a928f61ffc29e518d7933c514", func := "rubato/rubatolaw03.FailNobody", spec := "failNobody", inPlace := ["internal/reflectlite.ValueOf", "(internal/reflectlite.Value).Type", "(internal/reflectlite.Value).IsNil", "internal/reflectlite.TypeOf", "(internal/reflectlite.Value).Elem", "(internal/reflectlite.Value).Set"], unfollowed := true, recurses := true, named := ["errors.errorType"], apart := false, laid := [("errors.errorType", laid_errors_errorType)] }
def FailNobodySaid : Prop := failNobodyRow.holds Tryd.pinned (OpenSpec.ofChange failNobodySpec)

/-- ITS FALSE NEIGHBOUR: 'it returns false'. Refute it at one input. -/
def failNobodyWrong : ChangeSpec := { name := "failNobody", fn := fun _ => fun
  | [d] => { results := [.lit (.bool false)], args := [d] }
  | _ => none }
def FailNobodyWrongFalsely : Prop := failNobodyRow.holds Tryd.pinned (OpenSpec.ofChange failNobodyWrong)

/- THE SECOND FORM. 'bulk': how many values and letters a reading holds, each counted each time it is reached (what is shared counts as often as it is met; a slice's spare places count too). A statement '..UptoSaid' is the law's where the arguments, and the package variables that the reading takes, are together of bulk at most 1048576: NARROWER than '..Said'. Prove '..Said' where nothing that the law and all that it calls make is longer than what came in: it says more and counts as full. Else prove '..UptoSaid'. A law counts once. -/
mutual
def uptoBulk {H : Type} : DataW H → Nat
  | .lit (.string bytes) => bytes.length + 1
  | .lit _ => 1
  | .nil => 1
  | .ptr d => uptoBulk d + 1
  | .slice elems spare => uptoBulkAll elems + uptoBulkAll spare + 1
  | .agg parts => uptoBulkAll parts + 1
  | .iface _ d => uptoBulk d + 1
  | .map entries => uptoBulkEntries entries + 1
  | .held _ => 1
def uptoBulkAll {H : Type} : List (DataW H) → Nat
  | [] => 0
  | d :: r => uptoBulk d + uptoBulkAll r
def uptoBulkEntries {H : Type} : List (Lit × DataW H) → Nat
  | [] => 0
  | x :: r => uptoBulkEntry x + uptoBulkEntries r
def uptoBulkEntry {H : Type} : Lit × DataW H → Nat
  | (.string bytes, d) => bytes.length + uptoBulk d + 1
  | (_, d) => uptoBulk d + 1
 end
def uptoSmall : (H : Type) → List (DataW H) → Bool := fun _ ds => decide (uptoBulkAll ds ≤ 1048576)
def OpenSpec.upto (s : _root_.Go.ChangeSpec) : _root_.Go.OpenSpec := { _root_.Go.OpenSpec.ofChange s with cond := some uptoSmall }

/-- 'rubatolaw03.FailTells', WHERE WHAT IT READS IS OF BULK AT MOST 1048576: true; the input reads as it did. -/
def failTellsUptoRow : OpenClaim := { program := "ytffipdfcndbneaadoor", sum := "57451216346fc69278da40cc2d674b2dbbfcbd4a928f61ffc29e518d7933c514", func := "rubato/rubatolaw03.FailTells", spec := "failTells", inPlace := ["internal/reflectlite.ValueOf", "(internal/reflectlite.Value).Type", "(internal/reflectlite.Value).IsNil", "internal/reflectlite.TypeOf", "(internal/reflectlite.Value).Elem", "(internal/reflectlite.Value).Set"], unfollowed := true, recurses := true, named := ["errors.errorType"], apart := false, laid := [("errors.errorType", laid_errors_errorType)], narrowed := true }
def FailTellsUptoSaid : Prop := failTellsUptoRow.holds Tryd.pinned (OpenSpec.upto failTellsSpec)

/-- 'rubatolaw03.FailCodes', WHERE WHAT IT READS IS OF BULK AT MOST 1048576: true; the input reads as it did. -/
def failCodesUptoRow : OpenClaim := { program := "ytffipdfcndbneaadoor", sum := "57451216346fc69278da40cc2d674b2dbbfcbd4a928f61ffc29e518d7933c514", func := "rubato/rubatolaw03.FailCodes", spec := "failCodes", inPlace := ["internal/reflectlite.ValueOf", "(internal/reflectlite.Value).Type", "(internal/reflectlite.Value).IsNil", "internal/reflectlite.TypeOf", "(internal/reflectlite.Value).Elem", "(internal/reflectlite.Value).Set"], unfollowed := true, recurses := true, named := ["errors.errorType"], apart := false, laid := [("errors.errorType", laid_errors_errorType)], narrowed := true }
def FailCodesUptoSaid : Prop := failCodesUptoRow.holds Tryd.pinned (OpenSpec.upto failCodesSpec)

/-- 'rubatolaw03.FailTrace', WHERE WHAT IT READS IS OF BULK AT MOST 1048576: true; the input reads as it did. -/
def failTraceUptoRow : OpenClaim := { program := "ytffipdfcndbneaadoor", sum := "57451216346fc69278da40cc2d674b2dbbfcbd4a928f61ffc29e518d7933c514", func := "rubato/rubatolaw03.FailTrace", spec := "failTrace", inPlace := ["internal/reflectlite.ValueOf", "(internal/reflectlite.Value).Type", "(internal/reflectlite.Value).IsNil", "internal/reflectlite.TypeOf", "(internal/reflectlite.Value).Elem", "(internal/reflectlite.Value).Set"], unfollowed := true, recurses := true, named := ["errors.errorType"], apart := false, laid := [("errors.errorType", laid_errors_errorType)], narrowed := true }
def FailTraceUptoSaid : Prop := failTraceUptoRow.holds Tryd.pinned (OpenSpec.upto failTraceSpec)

/-- 'rubatolaw03.FailNobody', WHERE WHAT IT READS IS OF BULK AT MOST 1048576: true; the input reads as it did. -/
def failNobodyUptoRow : OpenClaim := { program := "ytffipdfcndbneaadoor", sum := "57451216346fc69278da40cc2d674b2dbbfcbd4a928f61ffc29e518d7933c514", func := "rubato/rubatolaw03.FailNobody", spec := "failNobody", inPlace := ["internal/reflectlite.ValueOf", "(internal/reflectlite.Value).Type", "(internal/reflectlite.Value).IsNil", "internal/reflectlite.TypeOf", "(internal/reflectlite.Value).Elem", "(internal/reflectlite.Value).Set"], unfollowed := true, recurses := true, named := ["errors.errorType"], apart := false, laid := [("errors.errorType", laid_errors_errorType)], narrowed := true }
def FailNobodyUptoSaid : Prop := failNobodyUptoRow.holds Tryd.pinned (OpenSpec.upto failNobodySpec)

end Rows
end Go.Proofs.YtffipdfcndbneaaDoor
