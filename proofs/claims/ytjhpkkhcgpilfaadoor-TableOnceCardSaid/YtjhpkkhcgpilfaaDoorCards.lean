/-
  DERIVED. GIVEN WITH THE SEED: THE CARDS: each row of YtjhpkkhcgpilfaaDoorRows.lean that lists a variable, with what it lists TIED to the program's text (the seventh form; the later family's looks); each row that meets fmt, with fmt's text TOLD by the authors' own Lean function (tested against real Go, not proved from fmt's source: count such statements apart). THE CARD IS WHAT COUNTS. Prove the row's statement (the work); the ties are given (YtjhpkkhcgpilfaaDoorTie.lean); close each card by the builder's one call (the guide's Derived/Test/ToyasCard.lean, 'card_holds'). Laid BY PROGRAM, IN A SANDBOX (cutbox-door.mjs). By AI agents, Wed Nov 11 2026. No macro, syntax, notation, axiom, sorry.
-/
import Derived.Test.YtjhpkkhcgpilfaaDoorRows
import GoSem.ClaimSeven
namespace Go.Proofs.YtjhpkkhcgpilfaaDoor
namespace Rows

/-- THE TIED CARD OF 'radomelaw24.NamesGives'. -/
def namesGivesCard : Claim7 := { stood := { row := namesGivesRow, standIns := [], harness := (true, "417f947e273c334e7e8f8bdeb7d22191bd2b364511d5e0a9b85c28679a7bd126"), looks := true }, kinds := [], alts := [], laidByText := true, laidKinds := [.handle], laidTests := true, laidLooks := .later }
def NamesGivesCardSaid : Prop := Claim7.holds Tryd.pinned (.plain (OpenSpec.ofChange namesGivesSpec)) namesGivesCard

/-- THE TIED CARD OF 'radomelaw24.NamesOnce'. -/
def namesOnceCard : Claim7 := { stood := { row := namesOnceRow, standIns := [], harness := (true, "417f947e273c334e7e8f8bdeb7d22191bd2b364511d5e0a9b85c28679a7bd126"), looks := true }, kinds := [], alts := [], laidByText := true, laidKinds := [.handle], laidTests := true, laidLooks := .later }
def NamesOnceCardSaid : Prop := Claim7.holds Tryd.pinned (.plain (OpenSpec.ofChange namesOnceSpec)) namesOnceCard

/-- THE TIED CARD OF 'radomelaw32.CountRuns'. -/
def countRunsCard : Claim7 := { stood := { row := countRunsRow, standIns := [], harness := (true, "417f947e273c334e7e8f8bdeb7d22191bd2b364511d5e0a9b85c28679a7bd126"), looks := true }, kinds := [], alts := [], laidByText := true, laidKinds := [.handle], laidTests := true, laidLooks := .later }
def CountRunsCardSaid : Prop := Claim7.holds Tryd.pinned (.plain (OpenSpec.ofChange countRunsSpec)) countRunsCard

/-- THE TIED CARD OF 'radomelaw32.CountAll'. -/
def countAllCard : Claim7 := { stood := { row := countAllRow, standIns := [], harness := (true, "417f947e273c334e7e8f8bdeb7d22191bd2b364511d5e0a9b85c28679a7bd126"), looks := true }, kinds := [], alts := [], laidByText := true, laidKinds := [.handle], laidTests := true, laidLooks := .later }
def CountAllCardSaid : Prop := Claim7.holds Tryd.pinned (.plain (OpenSpec.ofChange countAllSpec)) countAllCard

/-- THE TIED CARD OF 'radomelaw25.TableOnce'. -/
def tableOnceCard : Claim7 := { stood := { row := tableOnceRow, standIns := [], harness := (true, "417f947e273c334e7e8f8bdeb7d22191bd2b364511d5e0a9b85c28679a7bd126"), looks := true }, kinds := [], alts := [], laidByText := true, laidKinds := [.handle], laidTests := true, laidLooks := .later }
def TableOnceCardSaid : Prop := Claim7.holds Tryd.pinned (.plain (OpenSpec.ofChange tableOnceSpec)) tableOnceCard

/-- THE TIED CARD OF 'radomelaw25.TableRuns'. -/
def tableRunsCard : Claim7 := { stood := { row := tableRunsRow, standIns := [], harness := (true, "417f947e273c334e7e8f8bdeb7d22191bd2b364511d5e0a9b85c28679a7bd126"), looks := true }, kinds := [], alts := [], laidByText := true, laidKinds := [.handle], laidTests := true, laidLooks := .later }
def TableRunsCardSaid : Prop := Claim7.holds Tryd.pinned (.plain (OpenSpec.ofChange tableRunsSpec)) tableRunsCard

/-- THE SECOND FORM's CARD OF 'radomelaw24.NamesGives'. -/
def namesGivesUptoCard : Claim7 := { stood := { row := namesGivesUptoRow, standIns := [], harness := (true, "417f947e273c334e7e8f8bdeb7d22191bd2b364511d5e0a9b85c28679a7bd126"), looks := true }, kinds := [], alts := [], laidByText := true, laidKinds := [.handle], laidTests := true, laidLooks := .later }
def NamesGivesUptoCardSaid : Prop := Claim7.holds Tryd.pinned (.plain (OpenSpec.upto namesGivesSpec)) namesGivesUptoCard

/-- THE SECOND FORM's CARD OF 'radomelaw24.NamesOnce'. -/
def namesOnceUptoCard : Claim7 := { stood := { row := namesOnceUptoRow, standIns := [], harness := (true, "417f947e273c334e7e8f8bdeb7d22191bd2b364511d5e0a9b85c28679a7bd126"), looks := true }, kinds := [], alts := [], laidByText := true, laidKinds := [.handle], laidTests := true, laidLooks := .later }
def NamesOnceUptoCardSaid : Prop := Claim7.holds Tryd.pinned (.plain (OpenSpec.upto namesOnceSpec)) namesOnceUptoCard

/-- THE SECOND FORM's CARD OF 'radomelaw32.CountRuns'. -/
def countRunsUptoCard : Claim7 := { stood := { row := countRunsUptoRow, standIns := [], harness := (true, "417f947e273c334e7e8f8bdeb7d22191bd2b364511d5e0a9b85c28679a7bd126"), looks := true }, kinds := [], alts := [], laidByText := true, laidKinds := [.handle], laidTests := true, laidLooks := .later }
def CountRunsUptoCardSaid : Prop := Claim7.holds Tryd.pinned (.plain (OpenSpec.upto countRunsSpec)) countRunsUptoCard

/-- THE SECOND FORM's CARD OF 'radomelaw32.CountAll'. -/
def countAllUptoCard : Claim7 := { stood := { row := countAllUptoRow, standIns := [], harness := (true, "417f947e273c334e7e8f8bdeb7d22191bd2b364511d5e0a9b85c28679a7bd126"), looks := true }, kinds := [], alts := [], laidByText := true, laidKinds := [.handle], laidTests := true, laidLooks := .later }
def CountAllUptoCardSaid : Prop := Claim7.holds Tryd.pinned (.plain (OpenSpec.upto countAllSpec)) countAllUptoCard

/-- THE SECOND FORM's CARD OF 'radomelaw25.TableOnce'. -/
def tableOnceUptoCard : Claim7 := { stood := { row := tableOnceUptoRow, standIns := [], harness := (true, "417f947e273c334e7e8f8bdeb7d22191bd2b364511d5e0a9b85c28679a7bd126"), looks := true }, kinds := [], alts := [], laidByText := true, laidKinds := [.handle], laidTests := true, laidLooks := .later }
def TableOnceUptoCardSaid : Prop := Claim7.holds Tryd.pinned (.plain (OpenSpec.upto tableOnceSpec)) tableOnceUptoCard

/-- THE SECOND FORM's CARD OF 'radomelaw25.TableRuns'. -/
def tableRunsUptoCard : Claim7 := { stood := { row := tableRunsUptoRow, standIns := [], harness := (true, "417f947e273c334e7e8f8bdeb7d22191bd2b364511d5e0a9b85c28679a7bd126"), looks := true }, kinds := [], alts := [], laidByText := true, laidKinds := [.handle], laidTests := true, laidLooks := .later }
def TableRunsUptoCardSaid : Prop := Claim7.holds Tryd.pinned (.plain (OpenSpec.upto tableRunsSpec)) tableRunsUptoCard
end Rows
end Go.Proofs.YtjhpkkhcgpilfaaDoor
