/-
  NARROWER THAN 'FOR EVERY INPUT', by the rows' own cells (each row's printed sentence says how): LineTells: laid · LineSearches: laid · LineFinds: laid · LineExplains: laid.
  DERIVED. THE GIVEN ROWS OF THIS SEAT. 4 by the template 'for every input the law returns true; each argument reads behind the call as it read before'; 0 by the template 'total and deterministic' (their statements: YtcndnllmlhhjiaaGreatDoorTotals.lean).
  GIVEN WITH THE SEED: the statements are not yours to turn. If you find one false, say at which input.
  Laid BY PROGRAM, IN A SANDBOX (cutbox-rows.mjs): the forced cells as the released guide's own fill.sh prints them over the translation ceb082a152b05faa… (all of the seat's roots in one cut). By AI agents, Wed Nov 11 2026. No macro, syntax, notation, axiom, sorry.
-/
import Derived.Test.YtcndnllmlhhjiaaGreatDoorChecked
import GoSem.Claim
import GoSem.ClaimJoined
import GoSem.ClaimMapViews
import Derived.JoinedTies
import Derived.KernelRfl
namespace Go.Proofs.YtcndnllmlhhjiaaGreatDoor
/- THE CELL 'sum', in the pinned program and in every row, IS THE sha256 OF THE DUMP (.gsa) THAT YtcndnllmlhhjiaaGreatDoorProg.lean LOADS. Nothing in Lean hashes anything: it is a label: what it is worth is what the hold of that sum in a sandbox is worth. -/
noncomputable def Tryz.pinned : Pinned := { name := "ytcndnllmlhhjiaagreatdoor", sum := "ceb082a152b05faac8672514cadf3f9d093eef5dc5f9e30ae7e4afc4c1e675c3", checked := Tryz.checked }
namespace Rows
def none {H : Type} : Left H := { results := [], args := [] }

/- WHAT THE LISTED PACKAGE-LEVEL VARIABLES READ AS WHEN THE CALL BEGINS. Each datum BY PROGRAM (the guide's laid-datum.mjs) off the statement by which the dump's own 'gosem.cut.vars' lays the variable. In a bare row this is a premise. The card (YtcndnllmlhhjiaaGreatDoorCards.lean) ties it to the program's text. -/
def laid_errors_errorType {H : Type} : DataW H := .iface "internal/reflectlite.rtype" (.agg [.ptr (.lit (.string [101, 114, 114, 111, 114]))])

/-- 'rubatolaw40.LineTells': WHATEVER THE INPUT: true; the input reads as it did. -/
def lineTellsSpec : ChangeSpec := { name := "lineTells", fn := fun _ => fun
  | [d1, d2, d3] => { results := [.lit (.bool true)], args := [d1, d2, d3] }
  | _ => none }
def lineTellsRow : OpenClaim := { program := "ytcndnllmlhhjiaagreatdoor", sum := "ceb082a152b05faac8672514cadf3f9d093eef5dc5f9e30ae7e4afc4c1e675c3", func := "rubato/rubatolaw40.LineTells", spec := "lineTells", inPlace := ["internal/reflectlite.ValueOf", "(internal/reflectlite.Value).Type", "(internal/reflectlite.Value).IsNil", "internal/reflectlite.TypeOf", "(internal/reflectlite.Value).Elem", "(internal/reflectlite.Value).Set", "internal/abi.NoEscape", "slices.overlaps[rubato/api.Item]", "slices.overlaps[rubato/api.Session]"], unfollowed := true, recurses := true, named := ["errors.errorType"], apart := false, laid := [("errors.errorType", laid_errors_errorType)] }
def LineTellsSaid : Prop := lineTellsRow.holds Tryz.pinned (OpenSpec.ofChange lineTellsSpec)

/-- ITS FALSE NEIGHBOUR: 'it returns false'. Refute it at one input. -/
def lineTellsWrong : ChangeSpec := { name := "lineTells", fn := fun _ => fun
  | [d1, d2, d3] => { results := [.lit (.bool false)], args := [d1, d2, d3] }
  | _ => none }
def LineTellsWrongFalsely : Prop := lineTellsRow.holds Tryz.pinned (OpenSpec.ofChange lineTellsWrong)

/-- 'rubatolaw40.LineSearches': WHATEVER THE INPUT: true; the input reads as it did. -/
def lineSearchesSpec : ChangeSpec := { name := "lineSearches", fn := fun _ => fun
  | [d1, d2] => { results := [.lit (.bool true)], args := [d1, d2] }
  | _ => none }
def lineSearchesRow : OpenClaim := { program := "ytcndnllmlhhjiaagreatdoor", sum := "ceb082a152b05faac8672514cadf3f9d093eef5dc5f9e30ae7e4afc4c1e675c3", func := "rubato/rubatolaw40.LineSearches", spec := "lineSearches", inPlace := ["internal/reflectlite.ValueOf", "(internal/reflectlite.Value).Type", "(internal/reflectlite.Value).IsNil", "internal/reflectlite.TypeOf", "(internal/reflectlite.Value).Elem", "(internal/reflectlite.Value).Set", "internal/abi.NoEscape", "slices.overlaps[rubato/api.Item]", "slices.overlaps[rubato/api.Session]"], unfollowed := true, recurses := true, named := ["errors.errorType"], apart := false, laid := [("errors.errorType", laid_errors_errorType)] }
def LineSearchesSaid : Prop := lineSearchesRow.holds Tryz.pinned (OpenSpec.ofChange lineSearchesSpec)

/-- ITS FALSE NEIGHBOUR: 'it returns false'. Refute it at one input. -/
def lineSearchesWrong : ChangeSpec := { name := "lineSearches", fn := fun _ => fun
  | [d1, d2] => { results := [.lit (.bool false)], args := [d1, d2] }
  | _ => none }
def LineSearchesWrongFalsely : Prop := lineSearchesRow.holds Tryz.pinned (OpenSpec.ofChange lineSearchesWrong)

/-- 'rubatolaw40.LineFinds': WHATEVER THE INPUT: true; the input reads as it did. -/
def lineFindsSpec : ChangeSpec := { name := "lineFinds", fn := fun _ => fun
  | [d1, d2] => { results := [.lit (.bool true)], args := [d1, d2] }
  | _ => none }
def lineFindsRow : OpenClaim := { program := "ytcndnllmlhhjiaagreatdoor", sum := "ceb082a152b05faac8672514cadf3f9d093eef5dc5f9e30ae7e4afc4c1e675c3", func := "rubato/rubatolaw40.LineFinds", spec := "lineFinds", inPlace := ["internal/reflectlite.ValueOf", "(internal/reflectlite.Value).Type", "(internal/reflectlite.Value).IsNil", "internal/reflectlite.TypeOf", "(internal/reflectlite.Value).Elem", "(internal/reflectlite.Value).Set", "internal/abi.NoEscape", "slices.overlaps[rubato/api.Item]", "slices.overlaps[rubato/api.Session]"], unfollowed := true, recurses := true, named := ["errors.errorType"], apart := false, laid := [("errors.errorType", laid_errors_errorType)] }
def LineFindsSaid : Prop := lineFindsRow.holds Tryz.pinned (OpenSpec.ofChange lineFindsSpec)

/-- ITS FALSE NEIGHBOUR: 'it returns false'. Refute it at one input. -/
def lineFindsWrong : ChangeSpec := { name := "lineFinds", fn := fun _ => fun
  | [d1, d2] => { results := [.lit (.bool false)], args := [d1, d2] }
  | _ => none }
def LineFindsWrongFalsely : Prop := lineFindsRow.holds Tryz.pinned (OpenSpec.ofChange lineFindsWrong)

/-- 'rubatolaw40.LineExplains': WHATEVER THE INPUT: true; the input reads as it did. -/
def lineExplainsSpec : ChangeSpec := { name := "lineExplains", fn := fun _ => fun
  | [d1, d2, d3] => { results := [.lit (.bool true)], args := [d1, d2, d3] }
  | _ => none }
def lineExplainsRow : OpenClaim := { program := "ytcndnllmlhhjiaagreatdoor", sum := "ceb082a152b05faac8672514cadf3f9d093eef5dc5f9e30ae7e4afc4c1e675c3", func := "rubato/rubatolaw40.LineExplains", spec := "lineExplains", inPlace := ["internal/reflectlite.ValueOf", "(internal/reflectlite.Value).Type", "(internal/reflectlite.Value).IsNil", "internal/reflectlite.TypeOf", "(internal/reflectlite.Value).Elem", "(internal/reflectlite.Value).Set", "internal/abi.NoEscape", "slices.overlaps[rubato/api.Item]", "slices.overlaps[rubato/api.Session]"], unfollowed := true, recurses := true, named := ["errors.errorType"], apart := false, laid := [("errors.errorType", laid_errors_errorType)] }
def LineExplainsSaid : Prop := lineExplainsRow.holds Tryz.pinned (OpenSpec.ofChange lineExplainsSpec)

/-- ITS FALSE NEIGHBOUR: 'it returns false'. Refute it at one input. -/
def lineExplainsWrong : ChangeSpec := { name := "lineExplains", fn := fun _ => fun
  | [d1, d2, d3] => { results := [.lit (.bool false)], args := [d1, d2, d3] }
  | _ => none }
def LineExplainsWrongFalsely : Prop := lineExplainsRow.holds Tryz.pinned (OpenSpec.ofChange lineExplainsWrong)

/- THE SECOND FORM. 'bulk': how many values and letters a reading holds, each counted each time it is reached (what is shared counts as often as it is met; a slice's spare places count too). A statement '..UptoSaid' is the law's where the arguments, and the package variables that the reading takes, are together of bulk at most 1048576: NARROWER than '..Said'. Prove '..Said' where nothing that the law and all that it calls make is longer than what came in: it says more and counts as full. Else prove '..UptoSaid'. A law counts once. -/
mutual
def uptoBulk {H : Type} : DataW H → Nat
  | .lit (.string bytes) => bytes.length + 1
  | .lit _ => 1
  | .nil => 1
  | .ptr d => uptoBulk d + 1
  | .slice elems spare => uptoBulkAll elems + uptoBulkAll spare + 1
  | .agg parts => uptoBulkAll parts + 1
  | .iface _ d => uptoBulk d + 1
  | .map entries => uptoBulkEntries entries + 1
  | .held _ => 1
def uptoBulkAll {H : Type} : List (DataW H) → Nat
  | [] => 0
  | d :: r => uptoBulk d + uptoBulkAll r
def uptoBulkEntries {H : Type} : List (Lit × DataW H) → Nat
  | [] => 0
  | x :: r => uptoBulkEntry x + uptoBulkEntries r
def uptoBulkEntry {H : Type} : Lit × DataW H → Nat
  | (.string bytes, d) => bytes.length + uptoBulk d + 1
  | (_, d) => uptoBulk d + 1
 end
def uptoSmall : (H : Type) → List (DataW H) → Bool := fun _ ds => decide (uptoBulkAll ds ≤ 1048576)
def OpenSpec.upto (s : _root_.Go.ChangeSpec) : _root_.Go.OpenSpec := { _root_.Go.OpenSpec.ofChange s with cond := some uptoSmall }

/-- 'rubatolaw40.LineTells', WHERE WHAT IT READS IS OF BULK AT MOST 1048576: true; the input reads as it did. -/
def lineTellsUptoRow : OpenClaim := { program := "ytcndnllmlhhjiaagreatdoor", sum := "ceb082a152b05faac8672514cadf3f9d093eef5dc5f9e30ae7e4afc4c1e675c3", func := "rubato/rubatolaw40.LineTells", spec := "lineTells", inPlace := ["internal/reflectlite.ValueOf", "(internal/reflectlite.Value).Type", "(internal/reflectlite.Value).IsNil", "internal/reflectlite.TypeOf", "(internal/reflectlite.Value).Elem", "(internal/reflectlite.Value).Set", "internal/abi.NoEscape", "slices.overlaps[rubato/api.Item]", "slices.overlaps[rubato/api.Session]"], unfollowed := true, recurses := true, named := ["errors.errorType"], apart := false, laid := [("errors.errorType", laid_errors_errorType)], narrowed := true }
def LineTellsUptoSaid : Prop := lineTellsUptoRow.holds Tryz.pinned (OpenSpec.upto lineTellsSpec)

/-- 'rubatolaw40.LineSearches', WHERE WHAT IT READS IS OF BULK AT MOST 1048576: true; the input reads as it did. -/
def lineSearchesUptoRow : OpenClaim := { program := "ytcndnllmlhhjiaagreatdoor", sum := "ceb082a152b05faac8672514cadf3f9d093eef5dc5f9e30ae7e4afc4c1e675c3", func := "rubato/rubatolaw40.LineSearches", spec := "lineSearches", inPlace := ["internal/reflectlite.ValueOf", "(internal/reflectlite.Value).Type", "(internal/reflectlite.Value).IsNil", "internal/reflectlite.TypeOf", "(internal/reflectlite.Value).Elem", "(internal/reflectlite.Value).Set", "internal/abi.NoEscape", "slices.overlaps[rubato/api.Item]", "slices.overlaps[rubato/api.Session]"], unfollowed := true, recurses := true, named := ["errors.errorType"], apart := false, laid := [("errors.errorType", laid_errors_errorType)], narrowed := true }
def LineSearchesUptoSaid : Prop := lineSearchesUptoRow.holds Tryz.pinned (OpenSpec.upto lineSearchesSpec)

/-- 'rubatolaw40.LineFinds', WHERE WHAT IT READS IS OF BULK AT MOST 1048576: true; the input reads as it did. -/
def lineFindsUptoRow : OpenClaim := { program := "ytcndnllmlhhjiaagreatdoor", sum := "ceb082a152b05faac8672514cadf3f9d093eef5dc5f9e30ae7e4afc4c1e675c3", func := "rubato/rubatolaw40.LineFinds", spec := "lineFinds", inPlace := ["internal/reflectlite.ValueOf", "(internal/reflectlite.Value).Type", "(internal/reflectlite.Value).IsNil", "internal/reflectlite.TypeOf", "(internal/reflectlite.Value).Elem", "(internal/reflectlite.Value).Set", "internal/abi.NoEscape", "slices.overlaps[rubato/api.Item]", "slices.overlaps[rubato/api.Session]"], unfollowed := true, recurses := true, named := ["errors.errorType"], apart := false, laid := [("errors.errorType", laid_errors_errorType)], narrowed := true }
def LineFindsUptoSaid : Prop := lineFindsUptoRow.holds Tryz.pinned (OpenSpec.upto lineFindsSpec)

/-- 'rubatolaw40.LineExplains', WHERE WHAT IT READS IS OF BULK AT MOST 1048576: true; the input reads as it did. -/
def lineExplainsUptoRow : OpenClaim := { program := "ytcndnllmlhhjiaagreatdoor", sum := "ceb082a152b05faac8672514cadf3f9d093eef5dc5f9e30ae7e4afc4c1e675c3", func := "rubato/rubatolaw40.LineExplains", spec := "lineExplains", inPlace := ["internal/reflectlite.ValueOf", "(internal/reflectlite.Value).Type", "(internal/reflectlite.Value).IsNil", "internal/reflectlite.TypeOf", "(internal/reflectlite.Value).Elem", "(internal/reflectlite.Value).Set", "internal/abi.NoEscape", "slices.overlaps[rubato/api.Item]", "slices.overlaps[rubato/api.Session]"], unfollowed := true, recurses := true, named := ["errors.errorType"], apart := false, laid := [("errors.errorType", laid_errors_errorType)], narrowed := true }
def LineExplainsUptoSaid : Prop := lineExplainsUptoRow.holds Tryz.pinned (OpenSpec.upto lineExplainsSpec)

end Rows
end Go.Proofs.YtcndnllmlhhjiaaGreatDoor
