/-
  No cell of these rows narrows 'for every input' (looked for: loops, veiled, ifaces, maps, wideKeys, modest, calm, conditions, laid).
  DERIVED. THE GIVEN ROWS OF THIS SEAT. 3 by the template 'for every input the law returns true; each argument reads behind the call as it read before'; 0 by the template 'total and deterministic' (their statements: YtfeeohbapnolcaaTotals.lean).
  GIVEN WITH THE SEED: the statements are not yours to turn. If you find one false, say at which input.
  Laid BY PROGRAM, IN A SANDBOX (cutbox-rows.mjs): the forced cells as the released guide's own fill.sh prints them over the translation 65ee244384ae2ea2… (all of the seat's roots in one cut). By AI agents, Wed Nov 11 2026. No macro, syntax, notation, axiom, sorry.
-/
import Derived.Test.YtfeeohbapnolcaaChecked
import GoSem.Claim
import GoSem.ClaimJoined
import GoSem.ClaimMapViews
import Derived.JoinedTies
import Derived.KernelRfl
namespace Go.Proofs.Ytfeeohbapnolcaa
/- THE CELL 'sum', in the pinned program and in every row, IS THE sha256 OF THE DUMP (.gsa) THAT YtfeeohbapnolcaaProg.lean LOADS. Nothing in Lean hashes anything: it is a label: what it is worth is what the hold of that sum in a sandbox is worth. -/
noncomputable def Try.pinned : Pinned := { name := "ytfeeohbapnolcaa", sum := "65ee244384ae2ea22ab68eb23d992bed7ad6a0122ecb308892a54809ca3c0d4c", checked := Try.checked }
namespace Rows
def none {H : Type} : Left H := { results := [], args := [] }

/-- 'rubatolaw30.StockTells': WHATEVER THE INPUT: true; the input reads as it did. -/
def stockTellsSpec : ChangeSpec := { name := "stockTells", fn := fun _ => fun
  | [d1, d2, d3] => { results := [.lit (.bool true)], args := [d1, d2, d3] }
  | _ => none }
def stockTellsRow : OpenClaim := { program := "ytfeeohbapnolcaa", sum := "65ee244384ae2ea22ab68eb23d992bed7ad6a0122ecb308892a54809ca3c0d4c", func := "rubato/rubatolaw30.StockTells", spec := "stockTells", inPlace := ["slices.overlaps[rubato/api.Item]"], unfollowed := true, recurses := true, apart := false }
def StockTellsSaid : Prop := stockTellsRow.holds Try.pinned (OpenSpec.ofChange stockTellsSpec)

/-- ITS FALSE NEIGHBOUR: 'it returns false'. Refute it at one input. -/
def stockTellsWrong : ChangeSpec := { name := "stockTells", fn := fun _ => fun
  | [d1, d2, d3] => { results := [.lit (.bool false)], args := [d1, d2, d3] }
  | _ => none }
def StockTellsWrongFalsely : Prop := stockTellsRow.holds Try.pinned (OpenSpec.ofChange stockTellsWrong)

/-- 'rubatolaw30.StockSums': WHATEVER THE INPUT: true; the input reads as it did. -/
def stockSumsSpec : ChangeSpec := { name := "stockSums", fn := fun _ => fun
  | [d1, d2, d3] => { results := [.lit (.bool true)], args := [d1, d2, d3] }
  | _ => none }
def stockSumsRow : OpenClaim := { program := "ytfeeohbapnolcaa", sum := "65ee244384ae2ea22ab68eb23d992bed7ad6a0122ecb308892a54809ca3c0d4c", func := "rubato/rubatolaw30.StockSums", spec := "stockSums", inPlace := ["slices.overlaps[rubato/api.Item]"], unfollowed := true, recurses := true, apart := false }
def StockSumsSaid : Prop := stockSumsRow.holds Try.pinned (OpenSpec.ofChange stockSumsSpec)

/-- ITS FALSE NEIGHBOUR: 'it returns false'. Refute it at one input. -/
def stockSumsWrong : ChangeSpec := { name := "stockSums", fn := fun _ => fun
  | [d1, d2, d3] => { results := [.lit (.bool false)], args := [d1, d2, d3] }
  | _ => none }
def StockSumsWrongFalsely : Prop := stockSumsRow.holds Try.pinned (OpenSpec.ofChange stockSumsWrong)

/-- 'rubatolaw30.StockKeeps': WHATEVER THE INPUT: true; the input reads as it did. -/
def stockKeepsSpec : ChangeSpec := { name := "stockKeeps", fn := fun _ => fun
  | [d1, d2, d3] => { results := [.lit (.bool true)], args := [d1, d2, d3] }
  | _ => none }
def stockKeepsRow : OpenClaim := { program := "ytfeeohbapnolcaa", sum := "65ee244384ae2ea22ab68eb23d992bed7ad6a0122ecb308892a54809ca3c0d4c", func := "rubato/rubatolaw30.StockKeeps", spec := "stockKeeps", inPlace := ["slices.overlaps[rubato/api.Item]"], unfollowed := true, recurses := true, apart := false }
def StockKeepsSaid : Prop := stockKeepsRow.holds Try.pinned (OpenSpec.ofChange stockKeepsSpec)

/-- ITS FALSE NEIGHBOUR: 'it returns false'. Refute it at one input. -/
def stockKeepsWrong : ChangeSpec := { name := "stockKeeps", fn := fun _ => fun
  | [d1, d2, d3] => { results := [.lit (.bool false)], args := [d1, d2, d3] }
  | _ => none }
def StockKeepsWrongFalsely : Prop := stockKeepsRow.holds Try.pinned (OpenSpec.ofChange stockKeepsWrong)

/- THE SECOND FORM. 'bulk': how many values and letters a reading holds, each counted each time it is reached (what is shared counts as often as it is met; a slice's spare places count too). A statement '..UptoSaid' is the law's where the arguments, and the package variables that the reading takes, are together of bulk at most 1048576: NARROWER than '..Said'. Prove '..Said' where nothing that the law and all that it calls make is longer than what came in: it says more and counts as full. Else prove '..UptoSaid'. A law counts once. -/
mutual
def uptoBulk {H : Type} : DataW H → Nat
  | .lit (.string bytes) => bytes.length + 1
  | .lit _ => 1
  | .nil => 1
  | .ptr d => uptoBulk d + 1
  | .slice elems spare => uptoBulkAll elems + uptoBulkAll spare + 1
  | .agg parts => uptoBulkAll parts + 1
  | .iface _ d => uptoBulk d + 1
  | .map entries => uptoBulkEntries entries + 1
  | .held _ => 1
def uptoBulkAll {H : Type} : List (DataW H) → Nat
  | [] => 0
  | d :: r => uptoBulk d + uptoBulkAll r
def uptoBulkEntries {H : Type} : List (Lit × DataW H) → Nat
  | [] => 0
  | x :: r => uptoBulkEntry x + uptoBulkEntries r
def uptoBulkEntry {H : Type} : Lit × DataW H → Nat
  | (.string bytes, d) => bytes.length + uptoBulk d + 1
  | (_, d) => uptoBulk d + 1
 end
def uptoSmall : (H : Type) → List (DataW H) → Bool := fun _ ds => decide (uptoBulkAll ds ≤ 1048576)
def OpenSpec.upto (s : _root_.Go.ChangeSpec) : _root_.Go.OpenSpec := { _root_.Go.OpenSpec.ofChange s with cond := some uptoSmall }

/-- 'rubatolaw30.StockTells', WHERE WHAT IT READS IS OF BULK AT MOST 1048576: true; the input reads as it did. -/
def stockTellsUptoRow : OpenClaim := { program := "ytfeeohbapnolcaa", sum := "65ee244384ae2ea22ab68eb23d992bed7ad6a0122ecb308892a54809ca3c0d4c", func := "rubato/rubatolaw30.StockTells", spec := "stockTells", inPlace := ["slices.overlaps[rubato/api.Item]"], unfollowed := true, recurses := true, apart := false, narrowed := true }
def StockTellsUptoSaid : Prop := stockTellsUptoRow.holds Try.pinned (OpenSpec.upto stockTellsSpec)

/-- 'rubatolaw30.StockSums', WHERE WHAT IT READS IS OF BULK AT MOST 1048576: true; the input reads as it did. -/
def stockSumsUptoRow : OpenClaim := { program := "ytfeeohbapnolcaa", sum := "65ee244384ae2ea22ab68eb23d992bed7ad6a0122ecb308892a54809ca3c0d4c", func := "rubato/rubatolaw30.StockSums", spec := "stockSums", inPlace := ["slices.overlaps[rubato/api.Item]"], unfollowed := true, recurses := true, apart := false, narrowed := true }
def StockSumsUptoSaid : Prop := stockSumsUptoRow.holds Try.pinned (OpenSpec.upto stockSumsSpec)

/-- 'rubatolaw30.StockKeeps', WHERE WHAT IT READS IS OF BULK AT MOST 1048576: true; the input reads as it did. -/
def stockKeepsUptoRow : OpenClaim := { program := "ytfeeohbapnolcaa", sum := "65ee244384ae2ea22ab68eb23d992bed7ad6a0122ecb308892a54809ca3c0d4c", func := "rubato/rubatolaw30.StockKeeps", spec := "stockKeeps", inPlace := ["slices.overlaps[rubato/api.Item]"], unfollowed := true, recurses := true, apart := false, narrowed := true }
def StockKeepsUptoSaid : Prop := stockKeepsUptoRow.holds Try.pinned (OpenSpec.upto stockKeepsSpec)

end Rows
end Go.Proofs.Ytfeeohbapnolcaa
