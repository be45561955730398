/-
  DERIVED. GIVEN WITH THE SEED: THE CARDS: each row of YthogpkmidffdeaaDoorRows.lean that lists a variable, with what it lists TIED to the program's text (the seventh form; the later family's looks); each row that meets fmt, with fmt's text TOLD by the authors' own Lean function (tested against real Go, not proved from fmt's source: count such statements apart). THE CARD IS WHAT COUNTS. Prove the row's statement (the work); the ties are given (YthogpkmidffdeaaDoorTie.lean); close each card by the builder's one call (the guide's Derived/Test/ToyasCard.lean, 'card_holds'). Laid BY PROGRAM, IN A SANDBOX (cutbox-door.mjs). By AI agents, Wed Nov 11 2026. No macro, syntax, notation, axiom, sorry.
-/
import Derived.Test.YthogpkmidffdeaaDoorRows
import GoSem.ClaimSeven
namespace Go.Proofs.YthogpkmidffdeaaDoor
namespace Rows

/-- THE TIED CARD OF 'rubatolaw39.ClientTells'. -/
def clientTellsCard : Claim7 := { stood := { row := clientTellsRow, standIns := [], harness := (true, "a4af295644236a581a2ca3a2b93034bac069f91a86cc8a81ab048b7199eff254"), looks := true }, kinds := [], alts := [], laidByText := true, laidKinds := [.handle], laidTests := true, laidLooks := .later }
def ClientTellsCardSaid : Prop := Claim7.holds Tryd.pinned (.plain (OpenSpec.ofChange clientTellsSpec)) clientTellsCard

/-- THE TIED CARD OF 'rubatolaw39.ClientForms'. -/
def clientFormsCard : Claim7 := { stood := { row := clientFormsRow, standIns := [], harness := (true, "a4af295644236a581a2ca3a2b93034bac069f91a86cc8a81ab048b7199eff254"), looks := true }, kinds := [], alts := [], laidByText := true, laidKinds := [.handle], laidTests := true, laidLooks := .later }
def ClientFormsCardSaid : Prop := Claim7.holds Tryd.pinned (.plain (OpenSpec.ofChange clientFormsSpec)) clientFormsCard

/-- THE TIED CARD OF 'rubatolaw39.ClientOrder'. -/
def clientOrderCard : Claim7 := { stood := { row := clientOrderRow, standIns := [], harness := (true, "a4af295644236a581a2ca3a2b93034bac069f91a86cc8a81ab048b7199eff254"), looks := true }, kinds := [], alts := [], laidByText := true, laidKinds := [.handle], laidTests := true, laidLooks := .later }
def ClientOrderCardSaid : Prop := Claim7.holds Tryd.pinned (.plain (OpenSpec.ofChange clientOrderSpec)) clientOrderCard

/-- THE SECOND FORM's CARD OF 'rubatolaw39.ClientTells'. -/
def clientTellsUptoCard : Claim7 := { stood := { row := clientTellsUptoRow, standIns := [], harness := (true, "a4af295644236a581a2ca3a2b93034bac069f91a86cc8a81ab048b7199eff254"), looks := true }, kinds := [], alts := [], laidByText := true, laidKinds := [.handle], laidTests := true, laidLooks := .later }
def ClientTellsUptoCardSaid : Prop := Claim7.holds Tryd.pinned (.plain (OpenSpec.upto clientTellsSpec)) clientTellsUptoCard

/-- THE SECOND FORM's CARD OF 'rubatolaw39.ClientForms'. -/
def clientFormsUptoCard : Claim7 := { stood := { row := clientFormsUptoRow, standIns := [], harness := (true, "a4af295644236a581a2ca3a2b93034bac069f91a86cc8a81ab048b7199eff254"), looks := true }, kinds := [], alts := [], laidByText := true, laidKinds := [.handle], laidTests := true, laidLooks := .later }
def ClientFormsUptoCardSaid : Prop := Claim7.holds Tryd.pinned (.plain (OpenSpec.upto clientFormsSpec)) clientFormsUptoCard

/-- THE SECOND FORM's CARD OF 'rubatolaw39.ClientOrder'. -/
def clientOrderUptoCard : Claim7 := { stood := { row := clientOrderUptoRow, standIns := [], harness := (true, "a4af295644236a581a2ca3a2b93034bac069f91a86cc8a81ab048b7199eff254"), looks := true }, kinds := [], alts := [], laidByText := true, laidKinds := [.handle], laidTests := true, laidLooks := .later }
def ClientOrderUptoCardSaid : Prop := Claim7.holds Tryd.pinned (.plain (OpenSpec.upto clientOrderSpec)) clientOrderUptoCard
end Rows
end Go.Proofs.YthogpkmidffdeaaDoor
