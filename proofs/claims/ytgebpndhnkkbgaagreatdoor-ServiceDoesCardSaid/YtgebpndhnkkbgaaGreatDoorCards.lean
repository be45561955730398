/-
  DERIVED. GIVEN WITH THE SEED: THE CARDS: each row of YtgebpndhnkkbgaaGreatDoorRows.lean that lists a variable, with what it lists TIED to the program's text (the seventh form; the later family's looks); each row that meets fmt, with fmt's text TOLD by the authors' own Lean function (tested against real Go, not proved from fmt's source: count such statements apart). THE CARD IS WHAT COUNTS. Prove the row's statement (the work); the ties are given (YtgebpndhnkkbgaaGreatDoorTie.lean); close each card by the builder's one call (the guide's Derived/Test/ToyasCard.lean, 'card_holds'). Laid BY PROGRAM, IN A SANDBOX (cutbox-door.mjs). By AI agents, Wed Nov 11 2026. No macro, syntax, notation, axiom, sorry.
-/
import Derived.Test.YtgebpndhnkkbgaaGreatDoorRows
import GoSem.ClaimSeven
namespace Go.Proofs.YtgebpndhnkkbgaaGreatDoor
namespace Rows

/-- THE TIED CARD OF 'rubatolaw33.ServiceDoes'. -/
def serviceDoesCard : Claim7 := { stood := { row := serviceDoesRow, standIns := [], harness := (true, "dca3d636e77c637a113bc7f09fb6e5b1c391a6f04ea11fed8187d30365544f81"), looks := true }, kinds := [], alts := [], laidByText := true, laidKinds := [.handle], laidTests := true, laidLooks := .later }
def ServiceDoesCardSaid : Prop := Claim7.holds Tryz.pinned (.plain (OpenSpec.ofChange serviceDoesSpec)) serviceDoesCard

/-- THE TIED CARD OF 'rubatolaw33.ServiceApplies'. -/
def serviceAppliesCard : Claim7 := { stood := { row := serviceAppliesRow, standIns := [], harness := (true, "dca3d636e77c637a113bc7f09fb6e5b1c391a6f04ea11fed8187d30365544f81"), looks := true }, kinds := [], alts := [], laidByText := true, laidKinds := [.handle], laidTests := true, laidLooks := .later }
def ServiceAppliesCardSaid : Prop := Claim7.holds Tryz.pinned (.plain (OpenSpec.ofChange serviceAppliesSpec)) serviceAppliesCard

/-- THE TIED CARD OF 'rubatolaw33.ServiceOnce'. -/
def serviceOnceCard : Claim7 := { stood := { row := serviceOnceRow, standIns := [], harness := (true, "dca3d636e77c637a113bc7f09fb6e5b1c391a6f04ea11fed8187d30365544f81"), looks := true }, kinds := [], alts := [], laidByText := true, laidKinds := [.handle], laidTests := true, laidLooks := .later }
def ServiceOnceCardSaid : Prop := Claim7.holds Tryz.pinned (.plain (OpenSpec.ofChange serviceOnceSpec)) serviceOnceCard

/-- THE TIED CARD OF 'rubatolaw33.ServiceKeeps'. -/
def serviceKeepsCard : Claim7 := { stood := { row := serviceKeepsRow, standIns := [], harness := (true, "dca3d636e77c637a113bc7f09fb6e5b1c391a6f04ea11fed8187d30365544f81"), looks := true }, kinds := [], alts := [], laidByText := true, laidKinds := [.handle], laidTests := true, laidLooks := .later }
def ServiceKeepsCardSaid : Prop := Claim7.holds Tryz.pinned (.plain (OpenSpec.ofChange serviceKeepsSpec)) serviceKeepsCard

/-- THE SECOND FORM's CARD OF 'rubatolaw33.ServiceDoes'. -/
def serviceDoesUptoCard : Claim7 := { stood := { row := serviceDoesUptoRow, standIns := [], harness := (true, "dca3d636e77c637a113bc7f09fb6e5b1c391a6f04ea11fed8187d30365544f81"), looks := true }, kinds := [], alts := [], laidByText := true, laidKinds := [.handle], laidTests := true, laidLooks := .later }
def ServiceDoesUptoCardSaid : Prop := Claim7.holds Tryz.pinned (.plain (OpenSpec.upto serviceDoesSpec)) serviceDoesUptoCard

/-- THE SECOND FORM's CARD OF 'rubatolaw33.ServiceApplies'. -/
def serviceAppliesUptoCard : Claim7 := { stood := { row := serviceAppliesUptoRow, standIns := [], harness := (true, "dca3d636e77c637a113bc7f09fb6e5b1c391a6f04ea11fed8187d30365544f81"), looks := true }, kinds := [], alts := [], laidByText := true, laidKinds := [.handle], laidTests := true, laidLooks := .later }
def ServiceAppliesUptoCardSaid : Prop := Claim7.holds Tryz.pinned (.plain (OpenSpec.upto serviceAppliesSpec)) serviceAppliesUptoCard

/-- THE SECOND FORM's CARD OF 'rubatolaw33.ServiceOnce'. -/
def serviceOnceUptoCard : Claim7 := { stood := { row := serviceOnceUptoRow, standIns := [], harness := (true, "dca3d636e77c637a113bc7f09fb6e5b1c391a6f04ea11fed8187d30365544f81"), looks := true }, kinds := [], alts := [], laidByText := true, laidKinds := [.handle], laidTests := true, laidLooks := .later }
def ServiceOnceUptoCardSaid : Prop := Claim7.holds Tryz.pinned (.plain (OpenSpec.upto serviceOnceSpec)) serviceOnceUptoCard

/-- THE SECOND FORM's CARD OF 'rubatolaw33.ServiceKeeps'. -/
def serviceKeepsUptoCard : Claim7 := { stood := { row := serviceKeepsUptoRow, standIns := [], harness := (true, "dca3d636e77c637a113bc7f09fb6e5b1c391a6f04ea11fed8187d30365544f81"), looks := true }, kinds := [], alts := [], laidByText := true, laidKinds := [.handle], laidTests := true, laidLooks := .later }
def ServiceKeepsUptoCardSaid : Prop := Claim7.holds Tryz.pinned (.plain (OpenSpec.upto serviceKeepsSpec)) serviceKeepsUptoCard
end Rows
end Go.Proofs.YtgebpndhnkkbgaaGreatDoor
