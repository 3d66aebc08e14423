/-
  DERIVED. GIVEN WITH THE SEED: THE CARDS: each row of YtddcfnhbedpbnaaDoorRows.lean that lists a variable, with what it lists TIED to the program's text (the seventh form; the later family's looks); each row that meets fmt, with fmt's text TOLD by the authors' own Lean function (tested against real Go, not proved from fmt's source: count such statements apart). THE CARD IS WHAT COUNTS. Prove the row's statement (the work); the ties are given (YtddcfnhbedpbnaaDoorTie.lean); close each card by the builder's one call (the guide's Derived/Test/ToyasCard.lean, 'card_holds'). Laid BY PROGRAM, IN A SANDBOX (cutbox-door.mjs). By AI agents, Wed Nov 11 2026. No macro, syntax, notation, axiom, sorry.
-/
import Derived.Test.YtddcfnhbedpbnaaDoorRows
import GoSem.ClaimSeven
namespace Go.Proofs.YtddcfnhbedpbnaaDoor
namespace Rows

/-- THE TIED CARD OF 'radomelaw31.ClockAsks'. -/
def clockAsksCard : Claim7 := { stood := { row := clockAsksRow, standIns := [], harness := (true, "e35b0721aa9c042db9a66a30aa6a12983c4ce8f588611d6baea838336f53d596"), looks := true }, kinds := [], alts := [], laidByText := true, laidKinds := [.handle], laidTests := true, laidLooks := .later }
def ClockAsksCardSaid : Prop := Claim7.holds Tryd.pinned (.plain (OpenSpec.ofChange clockAsksSpec)) clockAsksCard

/-- THE TIED CARD OF 'radomelaw04.TurnRadians'. -/
def turnRadiansCard : Claim7 := { stood := { row := turnRadiansRow, standIns := [], harness := (true, "e35b0721aa9c042db9a66a30aa6a12983c4ce8f588611d6baea838336f53d596"), looks := true }, kinds := [], alts := [], laidByText := true, laidKinds := [.handle], laidTests := true, laidLooks := .later }
def TurnRadiansCardSaid : Prop := Claim7.holds Tryd.pinned (.plain (OpenSpec.ofChange turnRadiansSpec)) turnRadiansCard

/-- THE TIED CARD OF 'radomelaw23.LifeRuns'. -/
def lifeRunsCard : Claim7 := { stood := { row := lifeRunsRow, standIns := [], harness := (true, "e35b0721aa9c042db9a66a30aa6a12983c4ce8f588611d6baea838336f53d596"), looks := true }, kinds := [], alts := [], laidByText := true, laidKinds := [.handle], laidTests := true, laidLooks := .later }
def LifeRunsCardSaid : Prop := Claim7.holds Tryd.pinned (.plain (OpenSpec.ofChange lifeRunsSpec)) lifeRunsCard

/-- THE TIED CARD OF 'radomelaw23.LifeRaw'. -/
def lifeRawCard : Claim7 := { stood := { row := lifeRawRow, standIns := [], harness := (true, "e35b0721aa9c042db9a66a30aa6a12983c4ce8f588611d6baea838336f53d596"), looks := true }, kinds := [], alts := [], laidByText := true, laidKinds := [.handle], laidTests := true, laidLooks := .later }
def LifeRawCardSaid : Prop := Claim7.holds Tryd.pinned (.plain (OpenSpec.ofChange lifeRawSpec)) lifeRawCard

/-- THE SECOND FORM's CARD OF 'radomelaw31.ClockAsks'. -/
def clockAsksUptoCard : Claim7 := { stood := { row := clockAsksUptoRow, standIns := [], harness := (true, "e35b0721aa9c042db9a66a30aa6a12983c4ce8f588611d6baea838336f53d596"), looks := true }, kinds := [], alts := [], laidByText := true, laidKinds := [.handle], laidTests := true, laidLooks := .later }
def ClockAsksUptoCardSaid : Prop := Claim7.holds Tryd.pinned (.plain (OpenSpec.upto clockAsksSpec)) clockAsksUptoCard

/-- THE SECOND FORM's CARD OF 'radomelaw04.TurnRadians'. -/
def turnRadiansUptoCard : Claim7 := { stood := { row := turnRadiansUptoRow, standIns := [], harness := (true, "e35b0721aa9c042db9a66a30aa6a12983c4ce8f588611d6baea838336f53d596"), looks := true }, kinds := [], alts := [], laidByText := true, laidKinds := [.handle], laidTests := true, laidLooks := .later }
def TurnRadiansUptoCardSaid : Prop := Claim7.holds Tryd.pinned (.plain (OpenSpec.upto turnRadiansSpec)) turnRadiansUptoCard

/-- THE SECOND FORM's CARD OF 'radomelaw23.LifeRuns'. -/
def lifeRunsUptoCard : Claim7 := { stood := { row := lifeRunsUptoRow, standIns := [], harness := (true, "e35b0721aa9c042db9a66a30aa6a12983c4ce8f588611d6baea838336f53d596"), looks := true }, kinds := [], alts := [], laidByText := true, laidKinds := [.handle], laidTests := true, laidLooks := .later }
def LifeRunsUptoCardSaid : Prop := Claim7.holds Tryd.pinned (.plain (OpenSpec.upto lifeRunsSpec)) lifeRunsUptoCard

/-- THE SECOND FORM's CARD OF 'radomelaw23.LifeRaw'. -/
def lifeRawUptoCard : Claim7 := { stood := { row := lifeRawUptoRow, standIns := [], harness := (true, "e35b0721aa9c042db9a66a30aa6a12983c4ce8f588611d6baea838336f53d596"), looks := true }, kinds := [], alts := [], laidByText := true, laidKinds := [.handle], laidTests := true, laidLooks := .later }
def LifeRawUptoCardSaid : Prop := Claim7.holds Tryd.pinned (.plain (OpenSpec.upto lifeRawSpec)) lifeRawUptoCard
end Rows
end Go.Proofs.YtddcfnhbedpbnaaDoor
