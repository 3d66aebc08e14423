/-
  DERIVED. GIVEN WITH THE SEED: THE CARDS: each row of YtmnhbbckndlnkaaGreatDoorRows.lean that lists a variable, with what it lists TIED to the program's text (the seventh form; the later family's looks); each row that meets fmt, with fmt's text TOLD by the authors' own Lean function (tested against real Go, not proved from fmt's source: count such statements apart). THE CARD IS WHAT COUNTS. Prove the row's statement (the work); the ties are given (YtmnhbbckndlnkaaGreatDoorTie.lean); close each card by the builder's one call (the guide's Derived/Test/ToyasCard.lean, 'card_holds'). Laid BY PROGRAM, IN A SANDBOX (cutbox-door.mjs). By AI agents, Wed Nov 11 2026. No macro, syntax, notation, axiom, sorry.
-/
import Derived.Test.YtmnhbbckndlnkaaGreatDoorRows
import GoSem.ClaimSeven
namespace Go.Proofs.YtmnhbbckndlnkaaGreatDoor
namespace Rows

/-- THE TIED CARD OF 'radomelaw02.RatioNear'. -/
def ratioNearCard : Claim7 := { stood := { row := ratioNearRow, standIns := [], harness := (true, "59f188c7451a30e133024887800a9a3695e9ef12ea0af74a7e99a828a30fde06"), looks := true }, kinds := [], alts := [], laidByText := true, laidKinds := [.handle], laidTests := true, laidLooks := .later }
def RatioNearCardSaid : Prop := Claim7.holds Tryz.pinned (.plain (OpenSpec.ofChange ratioNearSpec)) ratioNearCard

/-- THE TIED CARD OF 'radomelaw02.RatioSums'. -/
def ratioSumsCard : Claim7 := { stood := { row := ratioSumsRow, standIns := [], harness := (true, "59f188c7451a30e133024887800a9a3695e9ef12ea0af74a7e99a828a30fde06"), looks := true }, kinds := [], alts := [], laidByText := true, laidKinds := [.handle], laidTests := true, laidLooks := .later }
def RatioSumsCardSaid : Prop := Claim7.holds Tryz.pinned (.plain (OpenSpec.ofChange ratioSumsSpec)) ratioSumsCard

/-- THE SECOND FORM's CARD OF 'radomelaw02.RatioNear'. -/
def ratioNearUptoCard : Claim7 := { stood := { row := ratioNearUptoRow, standIns := [], harness := (true, "59f188c7451a30e133024887800a9a3695e9ef12ea0af74a7e99a828a30fde06"), looks := true }, kinds := [], alts := [], laidByText := true, laidKinds := [.handle], laidTests := true, laidLooks := .later }
def RatioNearUptoCardSaid : Prop := Claim7.holds Tryz.pinned (.plain (OpenSpec.upto ratioNearSpec)) ratioNearUptoCard

/-- THE SECOND FORM's CARD OF 'radomelaw02.RatioSums'. -/
def ratioSumsUptoCard : Claim7 := { stood := { row := ratioSumsUptoRow, standIns := [], harness := (true, "59f188c7451a30e133024887800a9a3695e9ef12ea0af74a7e99a828a30fde06"), looks := true }, kinds := [], alts := [], laidByText := true, laidKinds := [.handle], laidTests := true, laidLooks := .later }
def RatioSumsUptoCardSaid : Prop := Claim7.holds Tryz.pinned (.plain (OpenSpec.upto ratioSumsSpec)) ratioSumsUptoCard
end Rows
end Go.Proofs.YtmnhbbckndlnkaaGreatDoor
