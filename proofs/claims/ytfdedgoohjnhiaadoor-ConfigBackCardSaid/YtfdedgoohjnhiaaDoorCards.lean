/-
  DERIVED. GIVEN WITH THE SEED: THE CARDS: each row of YtfdedgoohjnhiaaDoorRows.lean that lists a variable, with what it lists TIED to the program's text (the seventh form; the later family's looks); each row that meets fmt, with fmt's text TOLD by the authors' own Lean function (tested against real Go, not proved from fmt's source: count such statements apart). THE CARD IS WHAT COUNTS. Prove the row's statement (the work); the ties are given (YtfdedgoohjnhiaaDoorTie.lean); close each card by the builder's one call (the guide's Derived/Test/ToyasCard.lean, 'card_holds'). Laid BY PROGRAM, IN A SANDBOX (cutbox-door.mjs). By AI agents, Wed Nov 11 2026. No macro, syntax, notation, axiom, sorry.
-/
import Derived.Test.YtfdedgoohjnhiaaDoorRows
import GoSem.ClaimSeven
namespace Go.Proofs.YtfdedgoohjnhiaaDoor
namespace Rows

/-- THE TIED CARD OF 'radomelaw30.ConfigWrites'. -/
def configWritesCard : Claim7 := { stood := { row := configWritesRow, standIns := [], harness := (true, "c643ffbf6fbe1b8e03ba7a7b18322efd0db69ce645d0d3175216f6bb6390fcf0"), looks := true }, kinds := [], alts := [], laidByText := true, laidKinds := [.handle], laidTests := true, laidLooks := .later }
def ConfigWritesCardSaid : Prop := Claim7.holds Tryd.pinned (.plain (OpenSpec.ofChange configWritesSpec)) configWritesCard

/-- THE TIED CARD OF 'radomelaw30.ConfigReads'. -/
def configReadsCard : Claim7 := { stood := { row := configReadsRow, standIns := [], harness := (true, "c643ffbf6fbe1b8e03ba7a7b18322efd0db69ce645d0d3175216f6bb6390fcf0"), looks := true }, kinds := [], alts := [], laidByText := true, laidKinds := [.handle], laidTests := true, laidLooks := .later }
def ConfigReadsCardSaid : Prop := Claim7.holds Tryd.pinned (.plain (OpenSpec.ofChange configReadsSpec)) configReadsCard

/-- THE TIED CARD OF 'radomelaw30.ConfigBack'. -/
def configBackCard : Claim7 := { stood := { row := configBackRow, standIns := [], harness := (true, "c643ffbf6fbe1b8e03ba7a7b18322efd0db69ce645d0d3175216f6bb6390fcf0"), looks := true }, kinds := [], alts := [], laidByText := true, laidKinds := [.handle], laidTests := true, laidLooks := .later }
def ConfigBackCardSaid : Prop := Claim7.holds Tryd.pinned (.plain (OpenSpec.ofChange configBackSpec)) configBackCard

/-- THE SECOND FORM's CARD OF 'radomelaw30.ConfigWrites'. -/
def configWritesUptoCard : Claim7 := { stood := { row := configWritesUptoRow, standIns := [], harness := (true, "c643ffbf6fbe1b8e03ba7a7b18322efd0db69ce645d0d3175216f6bb6390fcf0"), looks := true }, kinds := [], alts := [], laidByText := true, laidKinds := [.handle], laidTests := true, laidLooks := .later }
def ConfigWritesUptoCardSaid : Prop := Claim7.holds Tryd.pinned (.plain (OpenSpec.upto configWritesSpec)) configWritesUptoCard

/-- THE SECOND FORM's CARD OF 'radomelaw30.ConfigReads'. -/
def configReadsUptoCard : Claim7 := { stood := { row := configReadsUptoRow, standIns := [], harness := (true, "c643ffbf6fbe1b8e03ba7a7b18322efd0db69ce645d0d3175216f6bb6390fcf0"), looks := true }, kinds := [], alts := [], laidByText := true, laidKinds := [.handle], laidTests := true, laidLooks := .later }
def ConfigReadsUptoCardSaid : Prop := Claim7.holds Tryd.pinned (.plain (OpenSpec.upto configReadsSpec)) configReadsUptoCard

/-- THE SECOND FORM's CARD OF 'radomelaw30.ConfigBack'. -/
def configBackUptoCard : Claim7 := { stood := { row := configBackUptoRow, standIns := [], harness := (true, "c643ffbf6fbe1b8e03ba7a7b18322efd0db69ce645d0d3175216f6bb6390fcf0"), looks := true }, kinds := [], alts := [], laidByText := true, laidKinds := [.handle], laidTests := true, laidLooks := .later }
def ConfigBackUptoCardSaid : Prop := Claim7.holds Tryd.pinned (.plain (OpenSpec.upto configBackSpec)) configBackUptoCard
end Rows
end Go.Proofs.YtfdedgoohjnhiaaDoor
