/-
  DERIVED. GIVEN WITH THE SEED: THE CARDS: each row of YtoijknggnlbopaaDoorRows.lean that lists a variable, with what it lists TIED to the program's text (the seventh form; the later family's looks); each row that meets fmt, with fmt's text TOLD by the authors' own Lean function (tested against real Go, not proved from fmt's source: count such statements apart). THE CARD IS WHAT COUNTS. Prove the row's statement (the work); the ties are given (YtoijknggnlbopaaDoorTie.lean); close each card by the builder's one call (the guide's Derived/Test/ToyasCard.lean, 'card_holds'). Laid BY PROGRAM, IN A SANDBOX (cutbox-door.mjs). By AI agents, Wed Nov 11 2026. No macro, syntax, notation, axiom, sorry.
-/
import Derived.Test.YtoijknggnlbopaaDoorRows
import GoSem.ClaimSeven
namespace Go.Proofs.YtoijknggnlbopaaDoor
namespace Rows

/-- THE TIED CARD OF 'radomelaw39.ZoneHits'. -/
def zoneHitsCard : Claim7 := { stood := { row := zoneHitsRow, standIns := [], harness := (true, "e0e2a46340e52d425879d92873aa04b49b3a4c580c921a1b7e273de219a9172e"), looks := true }, kinds := [], alts := [], laidByText := true, laidKinds := [.handle], laidTests := true, laidLooks := .later }
def ZoneHitsCardSaid : Prop := Claim7.holds Tryd.pinned (.plain (OpenSpec.ofChange zoneHitsSpec)) zoneHitsCard

/-- THE TIED CARD OF 'radomelaw39.ZoneWhere'. -/
def zoneWhereCard : Claim7 := { stood := { row := zoneWhereRow, standIns := [], harness := (true, "e0e2a46340e52d425879d92873aa04b49b3a4c580c921a1b7e273de219a9172e"), looks := true }, kinds := [], alts := [], laidByText := true, laidKinds := [.handle], laidTests := true, laidLooks := .later }
def ZoneWhereCardSaid : Prop := Claim7.holds Tryd.pinned (.plain (OpenSpec.ofChange zoneWhereSpec)) zoneWhereCard

/-- THE TIED CARD OF 'radomelaw37.ClutterRuns'. -/
def clutterRunsCard : Claim7 := { stood := { row := clutterRunsRow, standIns := [], harness := (true, "e0e2a46340e52d425879d92873aa04b49b3a4c580c921a1b7e273de219a9172e"), looks := true }, kinds := [], alts := [], laidByText := true, laidKinds := [.handle], laidTests := true, laidLooks := .later }
def ClutterRunsCardSaid : Prop := Claim7.holds Tryd.pinned (.plain (OpenSpec.ofChange clutterRunsSpec)) clutterRunsCard

/-- THE TIED CARD OF 'radomelaw37.ClutterSums'. -/
def clutterSumsCard : Claim7 := { stood := { row := clutterSumsRow, standIns := [], harness := (true, "e0e2a46340e52d425879d92873aa04b49b3a4c580c921a1b7e273de219a9172e"), looks := true }, kinds := [], alts := [], laidByText := true, laidKinds := [.handle], laidTests := true, laidLooks := .later }
def ClutterSumsCardSaid : Prop := Claim7.holds Tryd.pinned (.plain (OpenSpec.ofChange clutterSumsSpec)) clutterSumsCard

/-- THE TIED CARD OF 'radomelaw19.ClusterOf'. -/
def clusterOfCard : Claim7 := { stood := { row := clusterOfRow, standIns := [], harness := (true, "e0e2a46340e52d425879d92873aa04b49b3a4c580c921a1b7e273de219a9172e"), looks := true }, kinds := [], alts := [], laidByText := true, laidKinds := [.handle], laidTests := true, laidLooks := .later }
def ClusterOfCardSaid : Prop := Claim7.holds Tryd.pinned (.plain (OpenSpec.ofChange clusterOfSpec)) clusterOfCard

/-- THE TIED CARD OF 'radomelaw19.ClusterParts'. -/
def clusterPartsCard : Claim7 := { stood := { row := clusterPartsRow, standIns := [], harness := (true, "e0e2a46340e52d425879d92873aa04b49b3a4c580c921a1b7e273de219a9172e"), looks := true }, kinds := [], alts := [], laidByText := true, laidKinds := [.handle], laidTests := true, laidLooks := .later }
def ClusterPartsCardSaid : Prop := Claim7.holds Tryd.pinned (.plain (OpenSpec.ofChange clusterPartsSpec)) clusterPartsCard

/-- THE SECOND FORM's CARD OF 'radomelaw39.ZoneHits'. -/
def zoneHitsUptoCard : Claim7 := { stood := { row := zoneHitsUptoRow, standIns := [], harness := (true, "e0e2a46340e52d425879d92873aa04b49b3a4c580c921a1b7e273de219a9172e"), looks := true }, kinds := [], alts := [], laidByText := true, laidKinds := [.handle], laidTests := true, laidLooks := .later }
def ZoneHitsUptoCardSaid : Prop := Claim7.holds Tryd.pinned (.plain (OpenSpec.upto zoneHitsSpec)) zoneHitsUptoCard

/-- THE SECOND FORM's CARD OF 'radomelaw39.ZoneWhere'. -/
def zoneWhereUptoCard : Claim7 := { stood := { row := zoneWhereUptoRow, standIns := [], harness := (true, "e0e2a46340e52d425879d92873aa04b49b3a4c580c921a1b7e273de219a9172e"), looks := true }, kinds := [], alts := [], laidByText := true, laidKinds := [.handle], laidTests := true, laidLooks := .later }
def ZoneWhereUptoCardSaid : Prop := Claim7.holds Tryd.pinned (.plain (OpenSpec.upto zoneWhereSpec)) zoneWhereUptoCard

/-- THE SECOND FORM's CARD OF 'radomelaw37.ClutterRuns'. -/
def clutterRunsUptoCard : Claim7 := { stood := { row := clutterRunsUptoRow, standIns := [], harness := (true, "e0e2a46340e52d425879d92873aa04b49b3a4c580c921a1b7e273de219a9172e"), looks := true }, kinds := [], alts := [], laidByText := true, laidKinds := [.handle], laidTests := true, laidLooks := .later }
def ClutterRunsUptoCardSaid : Prop := Claim7.holds Tryd.pinned (.plain (OpenSpec.upto clutterRunsSpec)) clutterRunsUptoCard

/-- THE SECOND FORM's CARD OF 'radomelaw37.ClutterSums'. -/
def clutterSumsUptoCard : Claim7 := { stood := { row := clutterSumsUptoRow, standIns := [], harness := (true, "e0e2a46340e52d425879d92873aa04b49b3a4c580c921a1b7e273de219a9172e"), looks := true }, kinds := [], alts := [], laidByText := true, laidKinds := [.handle], laidTests := true, laidLooks := .later }
def ClutterSumsUptoCardSaid : Prop := Claim7.holds Tryd.pinned (.plain (OpenSpec.upto clutterSumsSpec)) clutterSumsUptoCard

/-- THE SECOND FORM's CARD OF 'radomelaw19.ClusterOf'. -/
def clusterOfUptoCard : Claim7 := { stood := { row := clusterOfUptoRow, standIns := [], harness := (true, "e0e2a46340e52d425879d92873aa04b49b3a4c580c921a1b7e273de219a9172e"), looks := true }, kinds := [], alts := [], laidByText := true, laidKinds := [.handle], laidTests := true, laidLooks := .later }
def ClusterOfUptoCardSaid : Prop := Claim7.holds Tryd.pinned (.plain (OpenSpec.upto clusterOfSpec)) clusterOfUptoCard

/-- THE SECOND FORM's CARD OF 'radomelaw19.ClusterParts'. -/
def clusterPartsUptoCard : Claim7 := { stood := { row := clusterPartsUptoRow, standIns := [], harness := (true, "e0e2a46340e52d425879d92873aa04b49b3a4c580c921a1b7e273de219a9172e"), looks := true }, kinds := [], alts := [], laidByText := true, laidKinds := [.handle], laidTests := true, laidLooks := .later }
def ClusterPartsUptoCardSaid : Prop := Claim7.holds Tryd.pinned (.plain (OpenSpec.upto clusterPartsSpec)) clusterPartsUptoCard
end Rows
end Go.Proofs.YtoijknggnlbopaaDoor
