/-
  No cell of these rows narrows 'for every input' (looked for: loops, veiled, ifaces, maps, wideKeys, modest, calm, conditions, laid).
  DERIVED. THE GIVEN ROWS OF THIS SEAT. 4 by the template 'for every input the law returns true; each argument reads behind the call as it read before'; 0 by the template 'total and deterministic' (their statements: YtlehejnhnfdgoaaTotals.lean).
  GIVEN WITH THE SEED: the statements are not yours to turn. If you find one false, say at which input.
  Laid BY PROGRAM, IN A SANDBOX (cutbox-rows.mjs): the forced cells as the released guide's own fill.sh prints them over the translation 40383f8181690e83… (all of the seat's roots in one cut). By AI agents, Wed Nov 11 2026. No macro, syntax, notation, axiom, sorry.
-/
import Derived.Test.YtlehejnhnfdgoaaChecked
import GoSem.Claim
import GoSem.ClaimJoined
import GoSem.ClaimMapViews
import Derived.JoinedTies
import Derived.KernelRfl
namespace Go.Proofs.Ytlehejnhnfdgoaa
/- THE CELL 'sum', in the pinned program and in every row, IS THE sha256 OF THE DUMP (.gsa) THAT YtlehejnhnfdgoaaProg.lean LOADS. Nothing in Lean hashes anything: it is a label: what it is worth is what the hold of that sum in a sandbox is worth. -/
noncomputable def Try.pinned : Pinned := { name := "ytlehejnhnfdgoaa", sum := "40383f8181690e8326b31ee2a84f75f561986089be502276b80bd4a87ffbdc81", checked := Try.checked }
namespace Rows
def none {H : Type} : Left H := { results := [], args := [] }

/-- 'rubatolaw05.NumCodes': WHATEVER THE INPUT: true; the input reads as it did. -/
def numCodesSpec : ChangeSpec := { name := "numCodes", fn := fun _ => fun
  | [d1, d2, d3] => { results := [.lit (.bool true)], args := [d1, d2, d3] }
  | _ => none }
def numCodesRow : OpenClaim := { program := "ytlehejnhnfdgoaa", sum := "40383f8181690e8326b31ee2a84f75f561986089be502276b80bd4a87ffbdc81", func := "rubato/rubatolaw05.NumCodes", spec := "numCodes", inPlace := ["internal/abi.NoEscape"], unfollowed := true, recurses := true, apart := false }
def NumCodesSaid : Prop := numCodesRow.holds Try.pinned (OpenSpec.ofChange numCodesSpec)

/-- ITS FALSE NEIGHBOUR: 'it returns false'. Refute it at one input. -/
def numCodesWrong : ChangeSpec := { name := "numCodes", fn := fun _ => fun
  | [d1, d2, d3] => { results := [.lit (.bool false)], args := [d1, d2, d3] }
  | _ => none }
def NumCodesWrongFalsely : Prop := numCodesRow.holds Try.pinned (OpenSpec.ofChange numCodesWrong)

/-- 'rubatolaw05.NumRows': WHATEVER THE INPUT: true; the input reads as it did. -/
def numRowsSpec : ChangeSpec := { name := "numRows", fn := fun _ => fun
  | [d1, d2, d3] => { results := [.lit (.bool true)], args := [d1, d2, d3] }
  | _ => none }
def numRowsRow : OpenClaim := { program := "ytlehejnhnfdgoaa", sum := "40383f8181690e8326b31ee2a84f75f561986089be502276b80bd4a87ffbdc81", func := "rubato/rubatolaw05.NumRows", spec := "numRows", inPlace := ["internal/abi.NoEscape"], unfollowed := true, recurses := true, apart := false }
def NumRowsSaid : Prop := numRowsRow.holds Try.pinned (OpenSpec.ofChange numRowsSpec)

/-- ITS FALSE NEIGHBOUR: 'it returns false'. Refute it at one input. -/
def numRowsWrong : ChangeSpec := { name := "numRows", fn := fun _ => fun
  | [d1, d2, d3] => { results := [.lit (.bool false)], args := [d1, d2, d3] }
  | _ => none }
def NumRowsWrongFalsely : Prop := numRowsRow.holds Try.pinned (OpenSpec.ofChange numRowsWrong)

/-- 'rubatolaw05.NumBack': WHATEVER THE INPUT: true; the input reads as it did. -/
def numBackSpec : ChangeSpec := { name := "numBack", fn := fun _ => fun
  | [d1, d2, d3] => { results := [.lit (.bool true)], args := [d1, d2, d3] }
  | _ => none }
def numBackRow : OpenClaim := { program := "ytlehejnhnfdgoaa", sum := "40383f8181690e8326b31ee2a84f75f561986089be502276b80bd4a87ffbdc81", func := "rubato/rubatolaw05.NumBack", spec := "numBack", inPlace := ["internal/abi.NoEscape"], unfollowed := true, recurses := true, apart := false }
def NumBackSaid : Prop := numBackRow.holds Try.pinned (OpenSpec.ofChange numBackSpec)

/-- ITS FALSE NEIGHBOUR: 'it returns false'. Refute it at one input. -/
def numBackWrong : ChangeSpec := { name := "numBack", fn := fun _ => fun
  | [d1, d2, d3] => { results := [.lit (.bool false)], args := [d1, d2, d3] }
  | _ => none }
def NumBackWrongFalsely : Prop := numBackRow.holds Try.pinned (OpenSpec.ofChange numBackWrong)

/-- 'rubatolaw05.NumLeast': WHATEVER THE INPUT: true; the input reads as it did. -/
def numLeastSpec : ChangeSpec := { name := "numLeast", fn := fun _ => fun
  | [d1, d2, d3] => { results := [.lit (.bool true)], args := [d1, d2, d3] }
  | _ => none }
def numLeastRow : OpenClaim := { program := "ytlehejnhnfdgoaa", sum := "40383f8181690e8326b31ee2a84f75f561986089be502276b80bd4a87ffbdc81", func := "rubato/rubatolaw05.NumLeast", spec := "numLeast", inPlace := ["internal/abi.NoEscape"], unfollowed := true, recurses := true, apart := false }
def NumLeastSaid : Prop := numLeastRow.holds Try.pinned (OpenSpec.ofChange numLeastSpec)

/-- ITS FALSE NEIGHBOUR: 'it returns false'. Refute it at one input. -/
def numLeastWrong : ChangeSpec := { name := "numLeast", fn := fun _ => fun
  | [d1, d2, d3] => { results := [.lit (.bool false)], args := [d1, d2, d3] }
  | _ => none }
def NumLeastWrongFalsely : Prop := numLeastRow.holds Try.pinned (OpenSpec.ofChange numLeastWrong)

/- THE SECOND FORM. 'bulk': how many values and letters a reading holds, each counted each time it is reached (what is shared counts as often as it is met; a slice's spare places count too). A statement '..UptoSaid' is the law's where the arguments, and the package variables that the reading takes, are together of bulk at most 1048576: NARROWER than '..Said'. Prove '..Said' where nothing that the law and all that it calls make is longer than what came in: it says more and counts as full. Else prove '..UptoSaid'. A law counts once. -/
mutual
def uptoBulk {H : Type} : DataW H → Nat
  | .lit (.string bytes) => bytes.length + 1
  | .lit _ => 1
  | .nil => 1
  | .ptr d => uptoBulk d + 1
  | .slice elems spare => uptoBulkAll elems + uptoBulkAll spare + 1
  | .agg parts => uptoBulkAll parts + 1
  | .iface _ d => uptoBulk d + 1
  | .map entries => uptoBulkEntries entries + 1
  | .held _ => 1
def uptoBulkAll {H : Type} : List (DataW H) → Nat
  | [] => 0
  | d :: r => uptoBulk d + uptoBulkAll r
def uptoBulkEntries {H : Type} : List (Lit × DataW H) → Nat
  | [] => 0
  | x :: r => uptoBulkEntry x + uptoBulkEntries r
def uptoBulkEntry {H : Type} : Lit × DataW H → Nat
  | (.string bytes, d) => bytes.length + uptoBulk d + 1
  | (_, d) => uptoBulk d + 1
 end
def uptoSmall : (H : Type) → List (DataW H) → Bool := fun _ ds => decide (uptoBulkAll ds ≤ 1048576)
def OpenSpec.upto (s : _root_.Go.ChangeSpec) : _root_.Go.OpenSpec := { _root_.Go.OpenSpec.ofChange s with cond := some uptoSmall }

/-- 'rubatolaw05.NumCodes', WHERE WHAT IT READS IS OF BULK AT MOST 1048576: true; the input reads as it did. -/
def numCodesUptoRow : OpenClaim := { program := "ytlehejnhnfdgoaa", sum := "40383f8181690e8326b31ee2a84f75f561986089be502276b80bd4a87ffbdc81", func := "rubato/rubatolaw05.NumCodes", spec := "numCodes", inPlace := ["internal/abi.NoEscape"], unfollowed := true, recurses := true, apart := false, narrowed := true }
def NumCodesUptoSaid : Prop := numCodesUptoRow.holds Try.pinned (OpenSpec.upto numCodesSpec)

/-- 'rubatolaw05.NumRows', WHERE WHAT IT READS IS OF BULK AT MOST 1048576: true; the input reads as it did. -/
def numRowsUptoRow : OpenClaim := { program := "ytlehejnhnfdgoaa", sum := "40383f8181690e8326b31ee2a84f75f561986089be502276b80bd4a87ffbdc81", func := "rubato/rubatolaw05.NumRows", spec := "numRows", inPlace := ["internal/abi.NoEscape"], unfollowed := true, recurses := true, apart := false, narrowed := true }
def NumRowsUptoSaid : Prop := numRowsUptoRow.holds Try.pinned (OpenSpec.upto numRowsSpec)

/-- 'rubatolaw05.NumBack', WHERE WHAT IT READS IS OF BULK AT MOST 1048576: true; the input reads as it did. -/
def numBackUptoRow : OpenClaim := { program := "ytlehejnhnfdgoaa", sum := "40383f8181690e8326b31ee2a84f75f561986089be502276b80bd4a87ffbdc81", func := "rubato/rubatolaw05.NumBack", spec := "numBack", inPlace := ["internal/abi.NoEscape"], unfollowed := true, recurses := true, apart := false, narrowed := true }
def NumBackUptoSaid : Prop := numBackUptoRow.holds Try.pinned (OpenSpec.upto numBackSpec)

/-- 'rubatolaw05.NumLeast', WHERE WHAT IT READS IS OF BULK AT MOST 1048576: true; the input reads as it did. -/
def numLeastUptoRow : OpenClaim := { program := "ytlehejnhnfdgoaa", sum := "40383f8181690e8326b31ee2a84f75f561986089be502276b80bd4a87ffbdc81", func := "rubato/rubatolaw05.NumLeast", spec := "numLeast", inPlace := ["internal/abi.NoEscape"], unfollowed := true, recurses := true, apart := false, narrowed := true }
def NumLeastUptoSaid : Prop := numLeastUptoRow.holds Try.pinned (OpenSpec.upto numLeastSpec)

end Rows
end Go.Proofs.Ytlehejnhnfdgoaa
