/-
  DERIVED. GIVEN WITH THE SEED: THE CARDS: each row of YtmnhbbckndlnkaaDoorRows.lean that lists a variable, with what it lists TIED to the program's text (the seventh form; the later family's looks); each row that meets fmt, with fmt's text TOLD by the authors' own Lean function (tested against real Go, not proved from fmt's source: count such statements apart). THE CARD IS WHAT COUNTS. Prove the row's statement (the work); the ties are given (YtmnhbbckndlnkaaDoorTie.lean); close each card by the builder's one call (the guide's Derived/Test/ToyasCard.lean, 'card_holds'). Laid BY PROGRAM, IN A SANDBOX (cutbox-door.mjs). By AI agents, Wed Nov 11 2026. No macro, syntax, notation, axiom, sorry.
-/
import Derived.Test.YtmnhbbckndlnkaaDoorRows
import GoSem.ClaimSeven
namespace Go.Proofs.YtmnhbbckndlnkaaDoor
namespace Rows

/-- THE TIED CARD OF 'radomelaw01.WideSums'. -/
def wideSumsCard : Claim7 := { stood := { row := wideSumsRow, standIns := [], harness := (true, "2ce3ca647cb1a37784000a8a3971a334b17cc3a430846e1662316241018f1825"), looks := true }, kinds := [], alts := [], laidByText := true, laidKinds := [.handle], laidTests := true, laidLooks := .later }
def WideSumsCardSaid : Prop := Claim7.holds Tryd.pinned (.plain (OpenSpec.ofChange wideSumsSpec)) wideSumsCard

/-- THE TIED CARD OF 'radomelaw01.WideRoots'. -/
def wideRootsCard : Claim7 := { stood := { row := wideRootsRow, standIns := [], harness := (true, "2ce3ca647cb1a37784000a8a3971a334b17cc3a430846e1662316241018f1825"), looks := true }, kinds := [], alts := [], laidByText := true, laidKinds := [.handle], laidTests := true, laidLooks := .later }
def WideRootsCardSaid : Prop := Claim7.holds Tryd.pinned (.plain (OpenSpec.ofChange wideRootsSpec)) wideRootsCard

/-- THE TIED CARD OF 'radomelaw01.WideLaws'. -/
def wideLawsCard : Claim7 := { stood := { row := wideLawsRow, standIns := [], harness := (true, "2ce3ca647cb1a37784000a8a3971a334b17cc3a430846e1662316241018f1825"), looks := true }, kinds := [], alts := [], laidByText := true, laidKinds := [.handle], laidTests := true, laidLooks := .later }
def WideLawsCardSaid : Prop := Claim7.holds Tryd.pinned (.plain (OpenSpec.ofChange wideLawsSpec)) wideLawsCard

/-- THE TIED CARD OF 'radomelaw02.RatioLaws'. -/
def ratioLawsCard : Claim7 := { stood := { row := ratioLawsRow, standIns := [], harness := (true, "2ce3ca647cb1a37784000a8a3971a334b17cc3a430846e1662316241018f1825"), looks := true }, kinds := [], alts := [], laidByText := true, laidKinds := [.handle], laidTests := true, laidLooks := .later }
def RatioLawsCardSaid : Prop := Claim7.holds Tryd.pinned (.plain (OpenSpec.ofChange ratioLawsSpec)) ratioLawsCard

/-- THE SECOND FORM's CARD OF 'radomelaw01.WideSums'. -/
def wideSumsUptoCard : Claim7 := { stood := { row := wideSumsUptoRow, standIns := [], harness := (true, "2ce3ca647cb1a37784000a8a3971a334b17cc3a430846e1662316241018f1825"), looks := true }, kinds := [], alts := [], laidByText := true, laidKinds := [.handle], laidTests := true, laidLooks := .later }
def WideSumsUptoCardSaid : Prop := Claim7.holds Tryd.pinned (.plain (OpenSpec.upto wideSumsSpec)) wideSumsUptoCard

/-- THE SECOND FORM's CARD OF 'radomelaw01.WideRoots'. -/
def wideRootsUptoCard : Claim7 := { stood := { row := wideRootsUptoRow, standIns := [], harness := (true, "2ce3ca647cb1a37784000a8a3971a334b17cc3a430846e1662316241018f1825"), looks := true }, kinds := [], alts := [], laidByText := true, laidKinds := [.handle], laidTests := true, laidLooks := .later }
def WideRootsUptoCardSaid : Prop := Claim7.holds Tryd.pinned (.plain (OpenSpec.upto wideRootsSpec)) wideRootsUptoCard

/-- THE SECOND FORM's CARD OF 'radomelaw01.WideLaws'. -/
def wideLawsUptoCard : Claim7 := { stood := { row := wideLawsUptoRow, standIns := [], harness := (true, "2ce3ca647cb1a37784000a8a3971a334b17cc3a430846e1662316241018f1825"), looks := true }, kinds := [], alts := [], laidByText := true, laidKinds := [.handle], laidTests := true, laidLooks := .later }
def WideLawsUptoCardSaid : Prop := Claim7.holds Tryd.pinned (.plain (OpenSpec.upto wideLawsSpec)) wideLawsUptoCard

/-- THE SECOND FORM's CARD OF 'radomelaw02.RatioLaws'. -/
def ratioLawsUptoCard : Claim7 := { stood := { row := ratioLawsUptoRow, standIns := [], harness := (true, "2ce3ca647cb1a37784000a8a3971a334b17cc3a430846e1662316241018f1825"), looks := true }, kinds := [], alts := [], laidByText := true, laidKinds := [.handle], laidTests := true, laidLooks := .later }
def RatioLawsUptoCardSaid : Prop := Claim7.holds Tryd.pinned (.plain (OpenSpec.upto ratioLawsSpec)) ratioLawsUptoCard
end Rows
end Go.Proofs.YtmnhbbckndlnkaaDoor
