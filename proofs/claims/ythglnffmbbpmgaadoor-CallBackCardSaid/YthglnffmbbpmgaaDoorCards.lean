/-
  DERIVED. GIVEN WITH THE SEED: THE CARDS: each row of YthglnffmbbpmgaaDoorRows.lean that lists a variable, with what it lists TIED to the program's text (the seventh form; the later family's looks); each row that meets fmt, with fmt's text TOLD by the authors' own Lean function (tested against real Go, not proved from fmt's source: count such statements apart). THE CARD IS WHAT COUNTS. Prove the row's statement (the work); the ties are given (YthglnffmbbpmgaaDoorTie.lean); close each card by the builder's one call (the guide's Derived/Test/ToyasCard.lean, 'card_holds'). Laid BY PROGRAM, IN A SANDBOX (cutbox-door.mjs). By AI agents, Wed Nov 11 2026. No macro, syntax, notation, axiom, sorry.
-/
import Derived.Test.YthglnffmbbpmgaaDoorRows
import GoSem.ClaimSeven
namespace Go.Proofs.YthglnffmbbpmgaaDoor
namespace Rows

/-- THE TIED CARD OF 'rubatolaw10.CallReplies'. -/
def callRepliesCard : Claim7 := { stood := { row := callRepliesRow, standIns := [], harness := (true, "66a7950b38f2de90958ae1ddaff4d8d39d2c33a4bdfcdcc9e1d8fc5e018de838"), looks := true }, kinds := [], alts := [], laidByText := true, laidKinds := [.handle], laidTests := true, laidLooks := .later }
def CallRepliesCardSaid : Prop := Claim7.holds Tryd.pinned (.plain (OpenSpec.ofChange callRepliesSpec)) callRepliesCard

/-- THE TIED CARD OF 'rubatolaw10.CallBack'. -/
def callBackCard : Claim7 := { stood := { row := callBackRow, standIns := [], harness := (true, "66a7950b38f2de90958ae1ddaff4d8d39d2c33a4bdfcdcc9e1d8fc5e018de838"), looks := true }, kinds := [], alts := [], laidByText := true, laidKinds := [.handle], laidTests := true, laidLooks := .later }
def CallBackCardSaid : Prop := Claim7.holds Tryd.pinned (.plain (OpenSpec.ofChange callBackSpec)) callBackCard

/-- THE TIED CARD OF 'rubatolaw10.CallOnly'. -/
def callOnlyCard : Claim7 := { stood := { row := callOnlyRow, standIns := [], harness := (true, "66a7950b38f2de90958ae1ddaff4d8d39d2c33a4bdfcdcc9e1d8fc5e018de838"), looks := true }, kinds := [], alts := [], laidByText := true, laidKinds := [.handle], laidTests := true, laidLooks := .later }
def CallOnlyCardSaid : Prop := Claim7.holds Tryd.pinned (.plain (OpenSpec.ofChange callOnlySpec)) callOnlyCard

/-- THE TIED CARD OF 'rubatolaw10.CallTakes'. -/
def callTakesCard : Claim7 := { stood := { row := callTakesRow, standIns := [], harness := (true, "66a7950b38f2de90958ae1ddaff4d8d39d2c33a4bdfcdcc9e1d8fc5e018de838"), looks := true }, kinds := [], alts := [], laidByText := true, laidKinds := [.handle], laidTests := true, laidLooks := .later }
def CallTakesCardSaid : Prop := Claim7.holds Tryd.pinned (.plain (OpenSpec.ofChange callTakesSpec)) callTakesCard

/-- THE SECOND FORM's CARD OF 'rubatolaw10.CallReplies'. -/
def callRepliesUptoCard : Claim7 := { stood := { row := callRepliesUptoRow, standIns := [], harness := (true, "66a7950b38f2de90958ae1ddaff4d8d39d2c33a4bdfcdcc9e1d8fc5e018de838"), looks := true }, kinds := [], alts := [], laidByText := true, laidKinds := [.handle], laidTests := true, laidLooks := .later }
def CallRepliesUptoCardSaid : Prop := Claim7.holds Tryd.pinned (.plain (OpenSpec.upto callRepliesSpec)) callRepliesUptoCard

/-- THE SECOND FORM's CARD OF 'rubatolaw10.CallBack'. -/
def callBackUptoCard : Claim7 := { stood := { row := callBackUptoRow, standIns := [], harness := (true, "66a7950b38f2de90958ae1ddaff4d8d39d2c33a4bdfcdcc9e1d8fc5e018de838"), looks := true }, kinds := [], alts := [], laidByText := true, laidKinds := [.handle], laidTests := true, laidLooks := .later }
def CallBackUptoCardSaid : Prop := Claim7.holds Tryd.pinned (.plain (OpenSpec.upto callBackSpec)) callBackUptoCard

/-- THE SECOND FORM's CARD OF 'rubatolaw10.CallOnly'. -/
def callOnlyUptoCard : Claim7 := { stood := { row := callOnlyUptoRow, standIns := [], harness := (true, "66a7950b38f2de90958ae1ddaff4d8d39d2c33a4bdfcdcc9e1d8fc5e018de838"), looks := true }, kinds := [], alts := [], laidByText := true, laidKinds := [.handle], laidTests := true, laidLooks := .later }
def CallOnlyUptoCardSaid : Prop := Claim7.holds Tryd.pinned (.plain (OpenSpec.upto callOnlySpec)) callOnlyUptoCard

/-- THE SECOND FORM's CARD OF 'rubatolaw10.CallTakes'. -/
def callTakesUptoCard : Claim7 := { stood := { row := callTakesUptoRow, standIns := [], harness := (true, "66a7950b38f2de90958ae1ddaff4d8d39d2c33a4bdfcdcc9e1d8fc5e018de838"), looks := true }, kinds := [], alts := [], laidByText := true, laidKinds := [.handle], laidTests := true, laidLooks := .later }
def CallTakesUptoCardSaid : Prop := Claim7.holds Tryd.pinned (.plain (OpenSpec.upto callTakesSpec)) callTakesUptoCard
end Rows
end Go.Proofs.YthglnffmbbpmgaaDoor
