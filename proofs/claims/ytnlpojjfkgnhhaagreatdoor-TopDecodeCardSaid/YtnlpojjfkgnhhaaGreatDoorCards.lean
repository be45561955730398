/-
  DERIVED. GIVEN WITH THE SEED: THE CARDS: each row of YtnlpojjfkgnhhaaGreatDoorRows.lean that lists a variable, with what it lists TIED to the program's text (the seventh form; the later family's looks); each row that meets fmt, with fmt's text TOLD by the authors' own Lean function (tested against real Go, not proved from fmt's source: count such statements apart). THE CARD IS WHAT COUNTS. Prove the row's statement (the work); the ties are given (YtnlpojjfkgnhhaaGreatDoorTie.lean); close each card by the builder's one call (the guide's Derived/Test/ToyasCard.lean, 'card_holds'). Laid BY PROGRAM, IN A SANDBOX (cutbox-door.mjs). By AI agents, Wed Nov 11 2026. No macro, syntax, notation, axiom, sorry.
-/
import Derived.Test.YtnlpojjfkgnhhaaGreatDoorRows
import GoSem.ClaimSeven
namespace Go.Proofs.YtnlpojjfkgnhhaaGreatDoor
namespace Rows

/-- THE TIED CARD OF 'rubatotop.TopDecode'. -/
def topDecodeCard : Claim7 := { stood := { row := topDecodeRow, standIns := [], harness := (true, "13591cede745fa83d19c4d44247e2ef164682bbe86072e0c04b6912dc235a3d6"), looks := true }, kinds := [], alts := [], laidByText := true, laidKinds := [.handle], laidTests := true, laidLooks := .later }
def TopDecodeCardSaid : Prop := Claim7.holds Tryz.pinned (.plain (OpenSpec.ofChange topDecodeSpec)) topDecodeCard

/-- THE SECOND FORM's CARD OF 'rubatotop.TopDecode'. -/
def topDecodeUptoCard : Claim7 := { stood := { row := topDecodeUptoRow, standIns := [], harness := (true, "13591cede745fa83d19c4d44247e2ef164682bbe86072e0c04b6912dc235a3d6"), looks := true }, kinds := [], alts := [], laidByText := true, laidKinds := [.handle], laidTests := true, laidLooks := .later }
def TopDecodeUptoCardSaid : Prop := Claim7.holds Tryz.pinned (.plain (OpenSpec.upto topDecodeSpec)) topDecodeUptoCard
end Rows
end Go.Proofs.YtnlpojjfkgnhhaaGreatDoor
