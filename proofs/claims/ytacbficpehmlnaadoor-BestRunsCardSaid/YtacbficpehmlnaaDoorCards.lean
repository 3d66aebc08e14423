/-
  DERIVED. GIVEN WITH THE SEED: THE CARDS: each row of YtacbficpehmlnaaDoorRows.lean that lists a variable, with what it lists TIED to the program's text (the seventh form; the later family's looks); each row that meets fmt, with fmt's text TOLD by the authors' own Lean function (tested against real Go, not proved from fmt's source: count such statements apart). THE CARD IS WHAT COUNTS. Prove the row's statement (the work); the ties are given (YtacbficpehmlnaaDoorTie.lean); close each card by the builder's one call (the guide's Derived/Test/ToyasCard.lean, 'card_holds'). Laid BY PROGRAM, IN A SANDBOX (cutbox-door.mjs). By AI agents, Wed Nov 11 2026. No macro, syntax, notation, axiom, sorry.
-/
import Derived.Test.YtacbficpehmlnaaDoorRows
import GoSem.ClaimSeven
namespace Go.Proofs.YtacbficpehmlnaaDoor
namespace Rows

/-- THE TIED CARD OF 'radomelaw21.AuctionRuns'. -/
def auctionRunsCard : Claim7 := { stood := { row := auctionRunsRow, standIns := [], harness := (true, "07ef3cfd627f45ae181f49a91c0781d73b48c89243eb1e570c72dbb1876b8bce"), looks := true }, kinds := [], alts := [], laidByText := true, laidKinds := [.handle], laidTests := true, laidLooks := .later }
def AuctionRunsCardSaid : Prop := Claim7.holds Tryd.pinned (.plain (OpenSpec.ofChange auctionRunsSpec)) auctionRunsCard

/-- THE TIED CARD OF 'radomelaw22.BestRuns'. -/
def bestRunsCard : Claim7 := { stood := { row := bestRunsRow, standIns := [], harness := (true, "07ef3cfd627f45ae181f49a91c0781d73b48c89243eb1e570c72dbb1876b8bce"), looks := true }, kinds := [], alts := [], laidByText := true, laidKinds := [.handle], laidTests := true, laidLooks := .later }
def BestRunsCardSaid : Prop := Claim7.holds Tryd.pinned (.plain (OpenSpec.ofChange bestRunsSpec)) bestRunsCard

/-- THE TIED CARD OF 'radomelaw22.BestShows'. -/
def bestShowsCard : Claim7 := { stood := { row := bestShowsRow, standIns := [], harness := (true, "07ef3cfd627f45ae181f49a91c0781d73b48c89243eb1e570c72dbb1876b8bce"), looks := true }, kinds := [], alts := [], laidByText := true, laidKinds := [.handle], laidTests := true, laidLooks := .later }
def BestShowsCardSaid : Prop := Claim7.holds Tryd.pinned (.plain (OpenSpec.ofChange bestShowsSpec)) bestShowsCard

/-- THE SECOND FORM's CARD OF 'radomelaw21.AuctionRuns'. -/
def auctionRunsUptoCard : Claim7 := { stood := { row := auctionRunsUptoRow, standIns := [], harness := (true, "07ef3cfd627f45ae181f49a91c0781d73b48c89243eb1e570c72dbb1876b8bce"), looks := true }, kinds := [], alts := [], laidByText := true, laidKinds := [.handle], laidTests := true, laidLooks := .later }
def AuctionRunsUptoCardSaid : Prop := Claim7.holds Tryd.pinned (.plain (OpenSpec.upto auctionRunsSpec)) auctionRunsUptoCard

/-- THE SECOND FORM's CARD OF 'radomelaw22.BestRuns'. -/
def bestRunsUptoCard : Claim7 := { stood := { row := bestRunsUptoRow, standIns := [], harness := (true, "07ef3cfd627f45ae181f49a91c0781d73b48c89243eb1e570c72dbb1876b8bce"), looks := true }, kinds := [], alts := [], laidByText := true, laidKinds := [.handle], laidTests := true, laidLooks := .later }
def BestRunsUptoCardSaid : Prop := Claim7.holds Tryd.pinned (.plain (OpenSpec.upto bestRunsSpec)) bestRunsUptoCard

/-- THE SECOND FORM's CARD OF 'radomelaw22.BestShows'. -/
def bestShowsUptoCard : Claim7 := { stood := { row := bestShowsUptoRow, standIns := [], harness := (true, "07ef3cfd627f45ae181f49a91c0781d73b48c89243eb1e570c72dbb1876b8bce"), looks := true }, kinds := [], alts := [], laidByText := true, laidKinds := [.handle], laidTests := true, laidLooks := .later }
def BestShowsUptoCardSaid : Prop := Claim7.holds Tryd.pinned (.plain (OpenSpec.upto bestShowsSpec)) bestShowsUptoCard
end Rows
end Go.Proofs.YtacbficpehmlnaaDoor
