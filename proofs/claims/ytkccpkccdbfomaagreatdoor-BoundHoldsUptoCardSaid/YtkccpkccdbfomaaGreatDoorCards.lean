/-
  DERIVED. GIVEN WITH THE SEED: THE CARDS: each row of YtkccpkccdbfomaaGreatDoorRows.lean that lists a variable, with what it lists TIED to the program's text (the seventh form; the later family's looks); each row that meets fmt, with fmt's text TOLD by the authors' own Lean function (tested against real Go, not proved from fmt's source: count such statements apart). THE CARD IS WHAT COUNTS. Prove the row's statement (the work); the ties are given (YtkccpkccdbfomaaGreatDoorTie.lean); close each card by the builder's one call (the guide's Derived/Test/ToyasCard.lean, 'card_holds'). Laid BY PROGRAM, IN A SANDBOX (cutbox-door.mjs). By AI agents, Wed Nov 11 2026. No macro, syntax, notation, axiom, sorry.
-/
import Derived.Test.YtkccpkccdbfomaaGreatDoorRows
import GoSem.ClaimSeven
namespace Go.Proofs.YtkccpkccdbfomaaGreatDoor
namespace Rows

/-- THE TIED CARD OF 'radomelaw34.SpanLast'. -/
def spanLastCard : Claim7 := { stood := { row := spanLastRow, standIns := [], harness := (true, "078f43bdbc96207b6589a487a5ab76fb1f62de424bc5d4632a14d20cc660a95f"), looks := true }, kinds := [], alts := [], laidByText := true, laidKinds := [.handle], laidTests := true, laidLooks := .later }
def SpanLastCardSaid : Prop := Claim7.holds Tryz.pinned (.plain (OpenSpec.ofChange spanLastSpec)) spanLastCard

/-- THE TIED CARD OF 'radomelaw34.SpanHolds'. -/
def spanHoldsCard : Claim7 := { stood := { row := spanHoldsRow, standIns := [], harness := (true, "078f43bdbc96207b6589a487a5ab76fb1f62de424bc5d4632a14d20cc660a95f"), looks := true }, kinds := [], alts := [], laidByText := true, laidKinds := [.handle], laidTests := true, laidLooks := .later }
def SpanHoldsCardSaid : Prop := Claim7.holds Tryz.pinned (.plain (OpenSpec.ofChange spanHoldsSpec)) spanHoldsCard

/-- THE TIED CARD OF 'radomelaw34.SpanSteps'. -/
def spanStepsCard : Claim7 := { stood := { row := spanStepsRow, standIns := [], harness := (true, "078f43bdbc96207b6589a487a5ab76fb1f62de424bc5d4632a14d20cc660a95f"), looks := true }, kinds := [], alts := [], laidByText := true, laidKinds := [.handle], laidTests := true, laidLooks := .later }
def SpanStepsCardSaid : Prop := Claim7.holds Tryz.pinned (.plain (OpenSpec.ofChange spanStepsSpec)) spanStepsCard

/-- THE TIED CARD OF 'radomelaw35.BoundSteps'. -/
def boundStepsCard : Claim7 := { stood := { row := boundStepsRow, standIns := [], harness := (true, "078f43bdbc96207b6589a487a5ab76fb1f62de424bc5d4632a14d20cc660a95f"), looks := true }, kinds := [], alts := [], laidByText := true, laidKinds := [.handle], laidTests := true, laidLooks := .later }
def BoundStepsCardSaid : Prop := Claim7.holds Tryz.pinned (.plain (OpenSpec.ofChange boundStepsSpec)) boundStepsCard

/-- THE TIED CARD OF 'radomelaw35.BoundHolds'. -/
def boundHoldsCard : Claim7 := { stood := { row := boundHoldsRow, standIns := [], harness := (true, "078f43bdbc96207b6589a487a5ab76fb1f62de424bc5d4632a14d20cc660a95f"), looks := true }, kinds := [], alts := [], laidByText := true, laidKinds := [.handle], laidTests := true, laidLooks := .later }
def BoundHoldsCardSaid : Prop := Claim7.holds Tryz.pinned (.plain (OpenSpec.ofChange boundHoldsSpec)) boundHoldsCard

/-- THE TIED CARD OF 'radomelaw35.BoundAfter'. -/
def boundAfterCard : Claim7 := { stood := { row := boundAfterRow, standIns := [], harness := (true, "078f43bdbc96207b6589a487a5ab76fb1f62de424bc5d4632a14d20cc660a95f"), looks := true }, kinds := [], alts := [], laidByText := true, laidKinds := [.handle], laidTests := true, laidLooks := .later }
def BoundAfterCardSaid : Prop := Claim7.holds Tryz.pinned (.plain (OpenSpec.ofChange boundAfterSpec)) boundAfterCard

/-- THE SECOND FORM's CARD OF 'radomelaw34.SpanLast'. -/
def spanLastUptoCard : Claim7 := { stood := { row := spanLastUptoRow, standIns := [], harness := (true, "078f43bdbc96207b6589a487a5ab76fb1f62de424bc5d4632a14d20cc660a95f"), looks := true }, kinds := [], alts := [], laidByText := true, laidKinds := [.handle], laidTests := true, laidLooks := .later }
def SpanLastUptoCardSaid : Prop := Claim7.holds Tryz.pinned (.plain (OpenSpec.upto spanLastSpec)) spanLastUptoCard

/-- THE SECOND FORM's CARD OF 'radomelaw34.SpanHolds'. -/
def spanHoldsUptoCard : Claim7 := { stood := { row := spanHoldsUptoRow, standIns := [], harness := (true, "078f43bdbc96207b6589a487a5ab76fb1f62de424bc5d4632a14d20cc660a95f"), looks := true }, kinds := [], alts := [], laidByText := true, laidKinds := [.handle], laidTests := true, laidLooks := .later }
def SpanHoldsUptoCardSaid : Prop := Claim7.holds Tryz.pinned (.plain (OpenSpec.upto spanHoldsSpec)) spanHoldsUptoCard

/-- THE SECOND FORM's CARD OF 'radomelaw34.SpanSteps'. -/
def spanStepsUptoCard : Claim7 := { stood := { row := spanStepsUptoRow, standIns := [], harness := (true, "078f43bdbc96207b6589a487a5ab76fb1f62de424bc5d4632a14d20cc660a95f"), looks := true }, kinds := [], alts := [], laidByText := true, laidKinds := [.handle], laidTests := true, laidLooks := .later }
def SpanStepsUptoCardSaid : Prop := Claim7.holds Tryz.pinned (.plain (OpenSpec.upto spanStepsSpec)) spanStepsUptoCard

/-- THE SECOND FORM's CARD OF 'radomelaw35.BoundSteps'. -/
def boundStepsUptoCard : Claim7 := { stood := { row := boundStepsUptoRow, standIns := [], harness := (true, "078f43bdbc96207b6589a487a5ab76fb1f62de424bc5d4632a14d20cc660a95f"), looks := true }, kinds := [], alts := [], laidByText := true, laidKinds := [.handle], laidTests := true, laidLooks := .later }
def BoundStepsUptoCardSaid : Prop := Claim7.holds Tryz.pinned (.plain (OpenSpec.upto boundStepsSpec)) boundStepsUptoCard

/-- THE SECOND FORM's CARD OF 'radomelaw35.BoundHolds'. -/
def boundHoldsUptoCard : Claim7 := { stood := { row := boundHoldsUptoRow, standIns := [], harness := (true, "078f43bdbc96207b6589a487a5ab76fb1f62de424bc5d4632a14d20cc660a95f"), looks := true }, kinds := [], alts := [], laidByText := true, laidKinds := [.handle], laidTests := true, laidLooks := .later }
def BoundHoldsUptoCardSaid : Prop := Claim7.holds Tryz.pinned (.plain (OpenSpec.upto boundHoldsSpec)) boundHoldsUptoCard

/-- THE SECOND FORM's CARD OF 'radomelaw35.BoundAfter'. -/
def boundAfterUptoCard : Claim7 := { stood := { row := boundAfterUptoRow, standIns := [], harness := (true, "078f43bdbc96207b6589a487a5ab76fb1f62de424bc5d4632a14d20cc660a95f"), looks := true }, kinds := [], alts := [], laidByText := true, laidKinds := [.handle], laidTests := true, laidLooks := .later }
def BoundAfterUptoCardSaid : Prop := Claim7.holds Tryz.pinned (.plain (OpenSpec.upto boundAfterSpec)) boundAfterUptoCard
end Rows
end Go.Proofs.YtkccpkccdbfomaaGreatDoor
