/-
  DERIVED. GIVEN WITH THE SEED: THE CARDS: each row of YtffipdfcndbneaaDoorRows.lean that lists a variable, with what it lists TIED to the program's text (the seventh form; the later family's looks); each row that meets fmt, with fmt's text TOLD by the authors' own Lean function (tested against real Go, not proved from fmt's source: count such statements apart). THE CARD IS WHAT COUNTS. Prove the row's statement (the work); the ties are given (YtffipdfcndbneaaDoorTie.lean); close each card by the builder's one call (the guide's Derived/Test/ToyasCard.lean, 'card_holds'). Laid BY PROGRAM, IN A SANDBOX (cutbox-door.mjs). By AI agents, Wed Nov 11 2026. No macro, syntax, notation, axiom, sorry.
-/
import Derived.Test.YtffipdfcndbneaaDoorRows
import GoSem.ClaimSeven
namespace Go.Proofs.YtffipdfcndbneaaDoor
namespace Rows

/-- THE TIED CARD OF 'rubatolaw03.FailTells'. -/
def failTellsCard : Claim7 := { stood := { row := failTellsRow, standIns := [], harness := (true, "174ed00d3037e25ae018a611283148e5b2f331fcbdac67ad75c1e04b8a1c551a"), looks := true }, kinds := [], alts := [], laidByText := true, laidKinds := [.handle], laidTests := true, laidLooks := .later }
def FailTellsCardSaid : Prop := Claim7.holds Tryd.pinned (.plain (OpenSpec.ofChange failTellsSpec)) failTellsCard

/-- THE TIED CARD OF 'rubatolaw03.FailCodes'. -/
def failCodesCard : Claim7 := { stood := { row := failCodesRow, standIns := [], harness := (true, "174ed00d3037e25ae018a611283148e5b2f331fcbdac67ad75c1e04b8a1c551a"), looks := true }, kinds := [], alts := [], laidByText := true, laidKinds := [.handle], laidTests := true, laidLooks := .later }
def FailCodesCardSaid : Prop := Claim7.holds Tryd.pinned (.plain (OpenSpec.ofChange failCodesSpec)) failCodesCard

/-- THE TIED CARD OF 'rubatolaw03.FailTrace'. -/
def failTraceCard : Claim7 := { stood := { row := failTraceRow, standIns := [], harness := (true, "174ed00d3037e25ae018a611283148e5b2f331fcbdac67ad75c1e04b8a1c551a"), looks := true }, kinds := [], alts := [], laidByText := true, laidKinds := [.handle], laidTests := true, laidLooks := .later }
def FailTraceCardSaid : Prop := Claim7.holds Tryd.pinned (.plain (OpenSpec.ofChange failTraceSpec)) failTraceCard

/-- THE TIED CARD OF 'rubatolaw03.FailNobody'. -/
def failNobodyCard : Claim7 := { stood := { row := failNobodyRow, standIns := [], harness := (true, "174ed00d3037e25ae018a611283148e5b2f331fcbdac67ad75c1e04b8a1c551a"), looks := true }, kinds := [], alts := [], laidByText := true, laidKinds := [.handle], laidTests := true, laidLooks := .later }
def FailNobodyCardSaid : Prop := Claim7.holds Tryd.pinned (.plain (OpenSpec.ofChange failNobodySpec)) failNobodyCard

/-- THE SECOND FORM's CARD OF 'rubatolaw03.FailTells'. -/
def failTellsUptoCard : Claim7 := { stood := { row := failTellsUptoRow, standIns := [], harness := (true, "174ed00d3037e25ae018a611283148e5b2f331fcbdac67ad75c1e04b8a1c551a"), looks := true }, kinds := [], alts := [], laidByText := true, laidKinds := [.handle], laidTests := true, laidLooks := .later }
def FailTellsUptoCardSaid : Prop := Claim7.holds Tryd.pinned (.plain (OpenSpec.upto failTellsSpec)) failTellsUptoCard

/-- THE SECOND FORM's CARD OF 'rubatolaw03.FailCodes'. -/
def failCodesUptoCard : Claim7 := { stood := { row := failCodesUptoRow, standIns := [], harness := (true, "174ed00d3037e25ae018a611283148e5b2f331fcbdac67ad75c1e04b8a1c551a"), looks := true }, kinds := [], alts := [], laidByText := true, laidKinds := [.handle], laidTests := true, laidLooks := .later }
def FailCodesUptoCardSaid : Prop := Claim7.holds Tryd.pinned (.plain (OpenSpec.upto failCodesSpec)) failCodesUptoCard

/-- THE SECOND FORM's CARD OF 'rubatolaw03.FailTrace'. -/
def failTraceUptoCard : Claim7 := { stood := { row := failTraceUptoRow, standIns := [], harness := (true, "174ed00d3037e25ae018a611283148e5b2f331fcbdac67ad75c1e04b8a1c551a"), looks := true }, kinds := [], alts := [], laidByText := true, laidKinds := [.handle], laidTests := true, laidLooks := .later }
def FailTraceUptoCardSaid : Prop := Claim7.holds Tryd.pinned (.plain (OpenSpec.upto failTraceSpec)) failTraceUptoCard

/-- THE SECOND FORM's CARD OF 'rubatolaw03.FailNobody'. -/
def failNobodyUptoCard : Claim7 := { stood := { row := failNobodyUptoRow, standIns := [], harness := (true, "174ed00d3037e25ae018a611283148e5b2f331fcbdac67ad75c1e04b8a1c551a"), looks := true }, kinds := [], alts := [], laidByText := true, laidKinds := [.handle], laidTests := true, laidLooks := .later }
def FailNobodyUptoCardSaid : Prop := Claim7.holds Tryd.pinned (.plain (OpenSpec.upto failNobodySpec)) failNobodyUptoCard
end Rows
end Go.Proofs.YtffipdfcndbneaaDoor
