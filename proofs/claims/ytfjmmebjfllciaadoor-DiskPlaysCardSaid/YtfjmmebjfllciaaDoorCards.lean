/-
  DERIVED. GIVEN WITH THE SEED: THE CARDS: each row of YtfjmmebjfllciaaDoorRows.lean that lists a variable, with what it lists TIED to the program's text (the seventh form; the later family's looks); each row that meets fmt, with fmt's text TOLD by the authors' own Lean function (tested against real Go, not proved from fmt's source: count such statements apart). THE CARD IS WHAT COUNTS. Prove the row's statement (the work); the ties are given (YtfjmmebjfllciaaDoorTie.lean); close each card by the builder's one call (the guide's Derived/Test/ToyasCard.lean, 'card_holds'). Laid BY PROGRAM, IN A SANDBOX (cutbox-door.mjs). By AI agents, Wed Nov 11 2026. No macro, syntax, notation, axiom, sorry.
-/
import Derived.Test.YtfjmmebjfllciaaDoorRows
import GoSem.ClaimSeven
namespace Go.Proofs.YtfjmmebjfllciaaDoor
namespace Rows

/-- THE TIED CARD OF 'rubatolaw12.DiskTorn'. -/
def diskTornCard : Claim7 := { stood := { row := diskTornRow, standIns := [], harness := (true, "be6cce6c79777813cb593ceb0bc23aaa6889981cd68fe1b0413ec0062930e3df"), looks := true }, kinds := [], alts := [], laidByText := true, laidKinds := [.handle], laidTests := true, laidLooks := .later }
def DiskTornCardSaid : Prop := Claim7.holds Tryd.pinned (.plain (OpenSpec.ofChange diskTornSpec)) diskTornCard

/-- THE TIED CARD OF 'rubatolaw12.DiskPlays'. -/
def diskPlaysCard : Claim7 := { stood := { row := diskPlaysRow, standIns := [], harness := (true, "be6cce6c79777813cb593ceb0bc23aaa6889981cd68fe1b0413ec0062930e3df"), looks := true }, kinds := [], alts := [], laidByText := true, laidKinds := [.handle], laidTests := true, laidLooks := .later }
def DiskPlaysCardSaid : Prop := Claim7.holds Tryd.pinned (.plain (OpenSpec.ofChange diskPlaysSpec)) diskPlaysCard

/-- THE TIED CARD OF 'rubatolaw12.DiskSafe'. -/
def diskSafeCard : Claim7 := { stood := { row := diskSafeRow, standIns := [], harness := (true, "be6cce6c79777813cb593ceb0bc23aaa6889981cd68fe1b0413ec0062930e3df"), looks := true }, kinds := [], alts := [], laidByText := true, laidKinds := [.handle], laidTests := true, laidLooks := .later }
def DiskSafeCardSaid : Prop := Claim7.holds Tryd.pinned (.plain (OpenSpec.ofChange diskSafeSpec)) diskSafeCard

/-- THE TIED CARD OF 'rubatolaw12.DiskNobody'. -/
def diskNobodyCard : Claim7 := { stood := { row := diskNobodyRow, standIns := [], harness := (true, "be6cce6c79777813cb593ceb0bc23aaa6889981cd68fe1b0413ec0062930e3df"), looks := true }, kinds := [], alts := [], laidByText := true, laidKinds := [.handle], laidTests := true, laidLooks := .later }
def DiskNobodyCardSaid : Prop := Claim7.holds Tryd.pinned (.plain (OpenSpec.ofChange diskNobodySpec)) diskNobodyCard

/-- THE SECOND FORM's CARD OF 'rubatolaw12.DiskTorn'. -/
def diskTornUptoCard : Claim7 := { stood := { row := diskTornUptoRow, standIns := [], harness := (true, "be6cce6c79777813cb593ceb0bc23aaa6889981cd68fe1b0413ec0062930e3df"), looks := true }, kinds := [], alts := [], laidByText := true, laidKinds := [.handle], laidTests := true, laidLooks := .later }
def DiskTornUptoCardSaid : Prop := Claim7.holds Tryd.pinned (.plain (OpenSpec.upto diskTornSpec)) diskTornUptoCard

/-- THE SECOND FORM's CARD OF 'rubatolaw12.DiskPlays'. -/
def diskPlaysUptoCard : Claim7 := { stood := { row := diskPlaysUptoRow, standIns := [], harness := (true, "be6cce6c79777813cb593ceb0bc23aaa6889981cd68fe1b0413ec0062930e3df"), looks := true }, kinds := [], alts := [], laidByText := true, laidKinds := [.handle], laidTests := true, laidLooks := .later }
def DiskPlaysUptoCardSaid : Prop := Claim7.holds Tryd.pinned (.plain (OpenSpec.upto diskPlaysSpec)) diskPlaysUptoCard

/-- THE SECOND FORM's CARD OF 'rubatolaw12.DiskSafe'. -/
def diskSafeUptoCard : Claim7 := { stood := { row := diskSafeUptoRow, standIns := [], harness := (true, "be6cce6c79777813cb593ceb0bc23aaa6889981cd68fe1b0413ec0062930e3df"), looks := true }, kinds := [], alts := [], laidByText := true, laidKinds := [.handle], laidTests := true, laidLooks := .later }
def DiskSafeUptoCardSaid : Prop := Claim7.holds Tryd.pinned (.plain (OpenSpec.upto diskSafeSpec)) diskSafeUptoCard

/-- THE SECOND FORM's CARD OF 'rubatolaw12.DiskNobody'. -/
def diskNobodyUptoCard : Claim7 := { stood := { row := diskNobodyUptoRow, standIns := [], harness := (true, "be6cce6c79777813cb593ceb0bc23aaa6889981cd68fe1b0413ec0062930e3df"), looks := true }, kinds := [], alts := [], laidByText := true, laidKinds := [.handle], laidTests := true, laidLooks := .later }
def DiskNobodyUptoCardSaid : Prop := Claim7.holds Tryd.pinned (.plain (OpenSpec.upto diskNobodySpec)) diskNobodyUptoCard
end Rows
end Go.Proofs.YtfjmmebjfllciaaDoor
