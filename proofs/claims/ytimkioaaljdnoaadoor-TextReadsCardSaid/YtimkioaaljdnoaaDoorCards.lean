/-
  DERIVED. GIVEN WITH THE SEED: THE CARDS: each row of YtimkioaaljdnoaaDoorRows.lean that lists a variable, with what it lists TIED to the program's text (the seventh form; the later family's looks); each row that meets fmt, with fmt's text TOLD by the authors' own Lean function (tested against real Go, not proved from fmt's source: count such statements apart). THE CARD IS WHAT COUNTS. Prove the row's statement (the work); the ties are given (YtimkioaaljdnoaaDoorTie.lean); close each card by the builder's one call (the guide's Derived/Test/ToyasCard.lean, 'card_holds'). Laid BY PROGRAM, IN A SANDBOX (cutbox-door.mjs). By AI agents, Wed Nov 11 2026. No macro, syntax, notation, axiom, sorry.
-/
import Derived.Test.YtimkioaaljdnoaaDoorRows
import GoSem.ClaimSeven
namespace Go.Proofs.YtimkioaaljdnoaaDoor
namespace Rows

/-- THE TIED CARD OF 'rubatolaw06.TextLays'. -/
def textLaysCard : Claim7 := { stood := { row := textLaysRow, standIns := [], harness := (true, "9e5424e3304059156c82c29f4d797d76993dfde533e79ef980eb8bb59580ed87"), looks := true }, kinds := [], alts := [], laidByText := true, laidKinds := [.handle], laidTests := true, laidLooks := .later }
def TextLaysCardSaid : Prop := Claim7.holds Tryd.pinned (.plain (OpenSpec.ofChange textLaysSpec)) textLaysCard

/-- THE TIED CARD OF 'rubatolaw06.TextReads'. -/
def textReadsCard : Claim7 := { stood := { row := textReadsRow, standIns := [], harness := (true, "9e5424e3304059156c82c29f4d797d76993dfde533e79ef980eb8bb59580ed87"), looks := true }, kinds := [], alts := [], laidByText := true, laidKinds := [.handle], laidTests := true, laidLooks := .later }
def TextReadsCardSaid : Prop := Claim7.holds Tryd.pinned (.plain (OpenSpec.ofChange textReadsSpec)) textReadsCard

/-- THE TIED CARD OF 'rubatolaw06.TextBack'. -/
def textBackCard : Claim7 := { stood := { row := textBackRow, standIns := [], harness := (true, "9e5424e3304059156c82c29f4d797d76993dfde533e79ef980eb8bb59580ed87"), looks := true }, kinds := [], alts := [], laidByText := true, laidKinds := [.handle], laidTests := true, laidLooks := .later }
def TextBackCardSaid : Prop := Claim7.holds Tryd.pinned (.plain (OpenSpec.ofChange textBackSpec)) textBackCard

/-- THE TIED CARD OF 'rubatolaw06.TextFirst'. -/
def textFirstCard : Claim7 := { stood := { row := textFirstRow, standIns := [], harness := (true, "9e5424e3304059156c82c29f4d797d76993dfde533e79ef980eb8bb59580ed87"), looks := true }, kinds := [], alts := [], laidByText := true, laidKinds := [.handle], laidTests := true, laidLooks := .later }
def TextFirstCardSaid : Prop := Claim7.holds Tryd.pinned (.plain (OpenSpec.ofChange textFirstSpec)) textFirstCard

/-- THE SECOND FORM's CARD OF 'rubatolaw06.TextLays'. -/
def textLaysUptoCard : Claim7 := { stood := { row := textLaysUptoRow, standIns := [], harness := (true, "9e5424e3304059156c82c29f4d797d76993dfde533e79ef980eb8bb59580ed87"), looks := true }, kinds := [], alts := [], laidByText := true, laidKinds := [.handle], laidTests := true, laidLooks := .later }
def TextLaysUptoCardSaid : Prop := Claim7.holds Tryd.pinned (.plain (OpenSpec.upto textLaysSpec)) textLaysUptoCard

/-- THE SECOND FORM's CARD OF 'rubatolaw06.TextReads'. -/
def textReadsUptoCard : Claim7 := { stood := { row := textReadsUptoRow, standIns := [], harness := (true, "9e5424e3304059156c82c29f4d797d76993dfde533e79ef980eb8bb59580ed87"), looks := true }, kinds := [], alts := [], laidByText := true, laidKinds := [.handle], laidTests := true, laidLooks := .later }
def TextReadsUptoCardSaid : Prop := Claim7.holds Tryd.pinned (.plain (OpenSpec.upto textReadsSpec)) textReadsUptoCard

/-- THE SECOND FORM's CARD OF 'rubatolaw06.TextBack'. -/
def textBackUptoCard : Claim7 := { stood := { row := textBackUptoRow, standIns := [], harness := (true, "9e5424e3304059156c82c29f4d797d76993dfde533e79ef980eb8bb59580ed87"), looks := true }, kinds := [], alts := [], laidByText := true, laidKinds := [.handle], laidTests := true, laidLooks := .later }
def TextBackUptoCardSaid : Prop := Claim7.holds Tryd.pinned (.plain (OpenSpec.upto textBackSpec)) textBackUptoCard

/-- THE SECOND FORM's CARD OF 'rubatolaw06.TextFirst'. -/
def textFirstUptoCard : Claim7 := { stood := { row := textFirstUptoRow, standIns := [], harness := (true, "9e5424e3304059156c82c29f4d797d76993dfde533e79ef980eb8bb59580ed87"), looks := true }, kinds := [], alts := [], laidByText := true, laidKinds := [.handle], laidTests := true, laidLooks := .later }
def TextFirstUptoCardSaid : Prop := Claim7.holds Tryd.pinned (.plain (OpenSpec.upto textFirstSpec)) textFirstUptoCard
end Rows
end Go.Proofs.YtimkioaaljdnoaaDoor
