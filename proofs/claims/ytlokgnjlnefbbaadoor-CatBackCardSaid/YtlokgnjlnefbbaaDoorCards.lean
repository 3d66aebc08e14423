/-
  DERIVED. GIVEN WITH THE SEED: THE CARDS: each row of YtlokgnjlnefbbaaDoorRows.lean that lists a variable, with what it lists TIED to the program's text (the seventh form; the later family's looks); each row that meets fmt, with fmt's text TOLD by the authors' own Lean function (tested against real Go, not proved from fmt's source: count such statements apart). THE CARD IS WHAT COUNTS. Prove the row's statement (the work); the ties are given (YtlokgnjlnefbbaaDoorTie.lean); close each card by the builder's one call (the guide's Derived/Test/ToyasCard.lean, 'card_holds'). Laid BY PROGRAM, IN A SANDBOX (cutbox-door.mjs). By AI agents, Wed Nov 11 2026. No macro, syntax, notation, axiom, sorry.
-/
import Derived.Test.YtlokgnjlnefbbaaDoorRows
import GoSem.ClaimSeven
namespace Go.Proofs.YtlokgnjlnefbbaaDoor
namespace Rows

/-- THE TIED CARD OF 'radomelaw29.ReportWrites'. -/
def reportWritesCard : Claim7 := { stood := { row := reportWritesRow, standIns := [], harness := (true, "554c1f7909740f1538b201d0613b8423e03b0c4e4e235761bac847c388b20e69"), looks := true }, kinds := [], alts := [], laidByText := true, laidKinds := [.handle], laidTests := true, laidLooks := .later }
def ReportWritesCardSaid : Prop := Claim7.holds Tryd.pinned (.plain (OpenSpec.ofChange reportWritesSpec)) reportWritesCard

/-- THE TIED CARD OF 'radomelaw27.FspecReads'. -/
def fspecReadsCard : Claim7 := { stood := { row := fspecReadsRow, standIns := [], harness := (true, "554c1f7909740f1538b201d0613b8423e03b0c4e4e235761bac847c388b20e69"), looks := true }, kinds := [], alts := [], laidByText := true, laidKinds := [.handle], laidTests := true, laidLooks := .later }
def FspecReadsCardSaid : Prop := Claim7.holds Tryd.pinned (.plain (OpenSpec.ofChange fspecReadsSpec)) fspecReadsCard

/-- THE TIED CARD OF 'radomelaw27.FspecBack'. -/
def fspecBackCard : Claim7 := { stood := { row := fspecBackRow, standIns := [], harness := (true, "554c1f7909740f1538b201d0613b8423e03b0c4e4e235761bac847c388b20e69"), looks := true }, kinds := [], alts := [], laidByText := true, laidKinds := [.handle], laidTests := true, laidLooks := .later }
def FspecBackCardSaid : Prop := Claim7.holds Tryd.pinned (.plain (OpenSpec.ofChange fspecBackSpec)) fspecBackCard

/-- THE TIED CARD OF 'radomelaw28.CatWrites'. -/
def catWritesCard : Claim7 := { stood := { row := catWritesRow, standIns := [], harness := (true, "554c1f7909740f1538b201d0613b8423e03b0c4e4e235761bac847c388b20e69"), looks := true }, kinds := [], alts := [], laidByText := true, laidKinds := [.handle], laidTests := true, laidLooks := .later }
def CatWritesCardSaid : Prop := Claim7.holds Tryd.pinned (.plain (OpenSpec.ofChange catWritesSpec)) catWritesCard

/-- THE TIED CARD OF 'radomelaw28.CatBack'. -/
def catBackCard : Claim7 := { stood := { row := catBackRow, standIns := [], harness := (true, "554c1f7909740f1538b201d0613b8423e03b0c4e4e235761bac847c388b20e69"), looks := true }, kinds := [], alts := [], laidByText := true, laidKinds := [.handle], laidTests := true, laidLooks := .later }
def CatBackCardSaid : Prop := Claim7.holds Tryd.pinned (.plain (OpenSpec.ofChange catBackSpec)) catBackCard

/-- THE SECOND FORM's CARD OF 'radomelaw29.ReportWrites'. -/
def reportWritesUptoCard : Claim7 := { stood := { row := reportWritesUptoRow, standIns := [], harness := (true, "554c1f7909740f1538b201d0613b8423e03b0c4e4e235761bac847c388b20e69"), looks := true }, kinds := [], alts := [], laidByText := true, laidKinds := [.handle], laidTests := true, laidLooks := .later }
def ReportWritesUptoCardSaid : Prop := Claim7.holds Tryd.pinned (.plain (OpenSpec.upto reportWritesSpec)) reportWritesUptoCard

/-- THE SECOND FORM's CARD OF 'radomelaw27.FspecReads'. -/
def fspecReadsUptoCard : Claim7 := { stood := { row := fspecReadsUptoRow, standIns := [], harness := (true, "554c1f7909740f1538b201d0613b8423e03b0c4e4e235761bac847c388b20e69"), looks := true }, kinds := [], alts := [], laidByText := true, laidKinds := [.handle], laidTests := true, laidLooks := .later }
def FspecReadsUptoCardSaid : Prop := Claim7.holds Tryd.pinned (.plain (OpenSpec.upto fspecReadsSpec)) fspecReadsUptoCard

/-- THE SECOND FORM's CARD OF 'radomelaw27.FspecBack'. -/
def fspecBackUptoCard : Claim7 := { stood := { row := fspecBackUptoRow, standIns := [], harness := (true, "554c1f7909740f1538b201d0613b8423e03b0c4e4e235761bac847c388b20e69"), looks := true }, kinds := [], alts := [], laidByText := true, laidKinds := [.handle], laidTests := true, laidLooks := .later }
def FspecBackUptoCardSaid : Prop := Claim7.holds Tryd.pinned (.plain (OpenSpec.upto fspecBackSpec)) fspecBackUptoCard

/-- THE SECOND FORM's CARD OF 'radomelaw28.CatWrites'. -/
def catWritesUptoCard : Claim7 := { stood := { row := catWritesUptoRow, standIns := [], harness := (true, "554c1f7909740f1538b201d0613b8423e03b0c4e4e235761bac847c388b20e69"), looks := true }, kinds := [], alts := [], laidByText := true, laidKinds := [.handle], laidTests := true, laidLooks := .later }
def CatWritesUptoCardSaid : Prop := Claim7.holds Tryd.pinned (.plain (OpenSpec.upto catWritesSpec)) catWritesUptoCard

/-- THE SECOND FORM's CARD OF 'radomelaw28.CatBack'. -/
def catBackUptoCard : Claim7 := { stood := { row := catBackUptoRow, standIns := [], harness := (true, "554c1f7909740f1538b201d0613b8423e03b0c4e4e235761bac847c388b20e69"), looks := true }, kinds := [], alts := [], laidByText := true, laidKinds := [.handle], laidTests := true, laidLooks := .later }
def CatBackUptoCardSaid : Prop := Claim7.holds Tryd.pinned (.plain (OpenSpec.upto catBackSpec)) catBackUptoCard
end Rows
end Go.Proofs.YtlokgnjlnefbbaaDoor
