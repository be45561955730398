/-
  DERIVED. GIVEN WITH THE SEED: THE CARDS: each row of YtcndnllmlhhjiaaGreatDoorRows.lean that lists a variable, with what it lists TIED to the program's text (the seventh form; the later family's looks); each row that meets fmt, with fmt's text TOLD by the authors' own Lean function (tested against real Go, not proved from fmt's source: count such statements apart). THE CARD IS WHAT COUNTS. Prove the row's statement (the work); the ties are given (YtcndnllmlhhjiaaGreatDoorTie.lean); close each card by the builder's one call (the guide's Derived/Test/ToyasCard.lean, 'card_holds'). Laid BY PROGRAM, IN A SANDBOX (cutbox-door.mjs). By AI agents, Wed Nov 11 2026. No macro, syntax, notation, axiom, sorry.
-/
import Derived.Test.YtcndnllmlhhjiaaGreatDoorRows
import GoSem.ClaimSeven
namespace Go.Proofs.YtcndnllmlhhjiaaGreatDoor
namespace Rows

/-- THE TIED CARD OF 'rubatolaw40.LineTells'. -/
def lineTellsCard : Claim7 := { stood := { row := lineTellsRow, standIns := [], harness := (true, "e600bdf297b8b2012d9e54df7394d14530edef2d0ef4a832c60eacc5dd5a1807"), looks := true }, kinds := [], alts := [], laidByText := true, laidKinds := [.handle], laidTests := true, laidLooks := .later }
def LineTellsCardSaid : Prop := Claim7.holds Tryz.pinned (.plain (OpenSpec.ofChange lineTellsSpec)) lineTellsCard

/-- THE TIED CARD OF 'rubatolaw40.LineSearches'. -/
def lineSearchesCard : Claim7 := { stood := { row := lineSearchesRow, standIns := [], harness := (true, "e600bdf297b8b2012d9e54df7394d14530edef2d0ef4a832c60eacc5dd5a1807"), looks := true }, kinds := [], alts := [], laidByText := true, laidKinds := [.handle], laidTests := true, laidLooks := .later }
def LineSearchesCardSaid : Prop := Claim7.holds Tryz.pinned (.plain (OpenSpec.ofChange lineSearchesSpec)) lineSearchesCard

/-- THE TIED CARD OF 'rubatolaw40.LineFinds'. -/
def lineFindsCard : Claim7 := { stood := { row := lineFindsRow, standIns := [], harness := (true, "e600bdf297b8b2012d9e54df7394d14530edef2d0ef4a832c60eacc5dd5a1807"), looks := true }, kinds := [], alts := [], laidByText := true, laidKinds := [.handle], laidTests := true, laidLooks := .later }
def LineFindsCardSaid : Prop := Claim7.holds Tryz.pinned (.plain (OpenSpec.ofChange lineFindsSpec)) lineFindsCard

/-- THE TIED CARD OF 'rubatolaw40.LineExplains'. -/
def lineExplainsCard : Claim7 := { stood := { row := lineExplainsRow, standIns := [], harness := (true, "e600bdf297b8b2012d9e54df7394d14530edef2d0ef4a832c60eacc5dd5a1807"), looks := true }, kinds := [], alts := [], laidByText := true, laidKinds := [.handle], laidTests := true, laidLooks := .later }
def LineExplainsCardSaid : Prop := Claim7.holds Tryz.pinned (.plain (OpenSpec.ofChange lineExplainsSpec)) lineExplainsCard

/-- THE SECOND FORM's CARD OF 'rubatolaw40.LineTells'. -/
def lineTellsUptoCard : Claim7 := { stood := { row := lineTellsUptoRow, standIns := [], harness := (true, "e600bdf297b8b2012d9e54df7394d14530edef2d0ef4a832c60eacc5dd5a1807"), looks := true }, kinds := [], alts := [], laidByText := true, laidKinds := [.handle], laidTests := true, laidLooks := .later }
def LineTellsUptoCardSaid : Prop := Claim7.holds Tryz.pinned (.plain (OpenSpec.upto lineTellsSpec)) lineTellsUptoCard

/-- THE SECOND FORM's CARD OF 'rubatolaw40.LineSearches'. -/
def lineSearchesUptoCard : Claim7 := { stood := { row := lineSearchesUptoRow, standIns := [], harness := (true, "e600bdf297b8b2012d9e54df7394d14530edef2d0ef4a832c60eacc5dd5a1807"), looks := true }, kinds := [], alts := [], laidByText := true, laidKinds := [.handle], laidTests := true, laidLooks := .later }
def LineSearchesUptoCardSaid : Prop := Claim7.holds Tryz.pinned (.plain (OpenSpec.upto lineSearchesSpec)) lineSearchesUptoCard

/-- THE SECOND FORM's CARD OF 'rubatolaw40.LineFinds'. -/
def lineFindsUptoCard : Claim7 := { stood := { row := lineFindsUptoRow, standIns := [], harness := (true, "e600bdf297b8b2012d9e54df7394d14530edef2d0ef4a832c60eacc5dd5a1807"), looks := true }, kinds := [], alts := [], laidByText := true, laidKinds := [.handle], laidTests := true, laidLooks := .later }
def LineFindsUptoCardSaid : Prop := Claim7.holds Tryz.pinned (.plain (OpenSpec.upto lineFindsSpec)) lineFindsUptoCard

/-- THE SECOND FORM's CARD OF 'rubatolaw40.LineExplains'. -/
def lineExplainsUptoCard : Claim7 := { stood := { row := lineExplainsUptoRow, standIns := [], harness := (true, "e600bdf297b8b2012d9e54df7394d14530edef2d0ef4a832c60eacc5dd5a1807"), looks := true }, kinds := [], alts := [], laidByText := true, laidKinds := [.handle], laidTests := true, laidLooks := .later }
def LineExplainsUptoCardSaid : Prop := Claim7.holds Tryz.pinned (.plain (OpenSpec.upto lineExplainsSpec)) lineExplainsUptoCard
end Rows
end Go.Proofs.YtcndnllmlhhjiaaGreatDoor
