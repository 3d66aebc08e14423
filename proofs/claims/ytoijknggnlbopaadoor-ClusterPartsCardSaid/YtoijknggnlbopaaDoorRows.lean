/-
  NARROWER THAN 'FOR EVERY INPUT', by the rows' own cells (each row's printed sentence says how): ZoneHits: laid · ZoneWhere: laid · ClutterRuns: laid · ClutterSums: laid · ClusterOf: laid · ClusterParts: laid.
  DERIVED. THE GIVEN ROWS OF THIS SEAT. 6 by the template 'for every input the law returns true; each argument reads behind the call as it read before'; 0 by the template 'total and deterministic' (their statements: YtoijknggnlbopaaDoorTotals.lean).
  GIVEN WITH THE SEED: the statements are not yours to turn. If you find one false, say at which input.
  Laid BY PROGRAM, IN A SANDBOX (cutbox-rows.mjs): the forced cells as the released guide's own fill.sh prints them over the translation d441410f87446ddc… (all of the seat's roots in one cut). By AI agents, Wed Nov 11 2026. No macro, syntax, notation, axiom, sorry.
-/
import Derived.Test.YtoijknggnlbopaaDoorChecked
import GoSem.Claim
import GoSem.ClaimJoined
import GoSem.ClaimMapViews
import Derived.JoinedTies
import Derived.KernelRfl
namespace Go.Proofs.YtoijknggnlbopaaDoor
/- THE CELL 'sum', in the pinned program and in every row, IS THE sha256 OF THE DUMP (.gsa) THAT YtoijknggnlbopaaDoorProg.lean LOADS. Nothing in Lean hashes anything: it is a label: what it is worth is what the hold of that sum in a sandbox is worth. -/
noncomputable def Tryd.pinned : Pinned := { name := "ytoijknggnlbopaadoor", sum := "d441410f87446ddc615f14bd708755ac379c5f0d9297f88ca139b7c53d71aae7", checked := Tryd.checked }
namespace Rows
def none {H : Type} : Left H := { results := [], args := [] }

/- WHAT THE LISTED PACKAGE-LEVEL VARIABLES READ AS WHEN THE CALL BEGINS. Each datum BY PROGRAM (the guide's laid-datum.mjs) off the statement by which the dump's own 'gosem.cut.vars' lays the variable. In a bare row this is a premise. The card (YtoijknggnlbopaaDoorCards.lean) ties it to the program's text. -/
def laid_errors_errorType {H : Type} : DataW H := .iface "internal/reflectlite.rtype" (.agg [.ptr (.lit (.string [101, 114, 114, 111, 114]))])

/-- 'radomelaw39.ZoneHits': WHATEVER THE INPUT: true; the input reads as it did. -/
def zoneHitsSpec : ChangeSpec := { name := "zoneHits", fn := fun _ => fun
  | [d1, d2] => { results := [.lit (.bool true)], args := [d1, d2] }
  | _ => none }
def zoneHitsRow : OpenClaim := { program := "ytoijknggnlbopaadoor", sum := "d441410f87446ddc615f14bd708755ac379c5f0d9297f88ca139b7c53d71aae7", func := "radome/radomelaw39.ZoneHits", spec := "zoneHits", inPlace := ["internal/reflectlite.ValueOf", "(internal/reflectlite.Value).Type", "(internal/reflectlite.Value).IsNil", "internal/reflectlite.TypeOf", "(internal/reflectlite.Value).Elem", "(internal/reflectlite.Value).Set"], unfollowed := true, recurses := true, named := ["errors.errorType"], apart := false, laid := [("errors.errorType", laid_errors_errorType)] }
def ZoneHitsSaid : Prop := zoneHitsRow.holds Tryd.pinned (OpenSpec.ofChange zoneHitsSpec)

/-- ITS FALSE NEIGHBOUR: 'it returns false'. Refute it at one input. -/
def zoneHitsWrong : ChangeSpec := { name := "zoneHits", fn := fun _ => fun
  | [d1, d2] => { results := [.lit (.bool false)], args := [d1, d2] }
  | _ => none }
def ZoneHitsWrongFalsely : Prop := zoneHitsRow.holds Tryd.pinned (OpenSpec.ofChange zoneHitsWrong)

/-- 'radomelaw39.ZoneWhere': WHATEVER THE INPUT: true; the input reads as it did. -/
def zoneWhereSpec : ChangeSpec := { name := "zoneWhere", fn := fun _ => fun
  | [d1, d2] => { results := [.lit (.bool true)], args := [d1, d2] }
  | _ => none }
def zoneWhereRow : OpenClaim := { program := "ytoijknggnlbopaadoor", sum := "d441410f87446ddc615f14bd708755ac379c5f0d9297f88ca139b7c53d71aae7", func := "radome/radomelaw39.ZoneWhere", spec := "zoneWhere", inPlace := ["internal/reflectlite.ValueOf", "(internal/reflectlite.Value).Type", "(internal/reflectlite.Value).IsNil", "internal/reflectlite.TypeOf", "(internal/reflectlite.Value).Elem", "(internal/reflectlite.Value).Set"], unfollowed := true, recurses := true, named := ["errors.errorType"], apart := false, laid := [("errors.errorType", laid_errors_errorType)] }
def ZoneWhereSaid : Prop := zoneWhereRow.holds Tryd.pinned (OpenSpec.ofChange zoneWhereSpec)

/-- ITS FALSE NEIGHBOUR: 'it returns false'. Refute it at one input. -/
def zoneWhereWrong : ChangeSpec := { name := "zoneWhere", fn := fun _ => fun
  | [d1, d2] => { results := [.lit (.bool false)], args := [d1, d2] }
  | _ => none }
def ZoneWhereWrongFalsely : Prop := zoneWhereRow.holds Tryd.pinned (OpenSpec.ofChange zoneWhereWrong)

/-- 'radomelaw37.ClutterRuns': WHATEVER THE INPUT: true; the input reads as it did. -/
def clutterRunsSpec : ChangeSpec := { name := "clutterRuns", fn := fun _ => fun
  | [d1, d2, d3] => { results := [.lit (.bool true)], args := [d1, d2, d3] }
  | _ => none }
def clutterRunsRow : OpenClaim := { program := "ytoijknggnlbopaadoor", sum := "d441410f87446ddc615f14bd708755ac379c5f0d9297f88ca139b7c53d71aae7", func := "radome/radomelaw37.ClutterRuns", spec := "clutterRuns", inPlace := ["internal/reflectlite.ValueOf", "(internal/reflectlite.Value).Type", "(internal/reflectlite.Value).IsNil", "internal/reflectlite.TypeOf", "(internal/reflectlite.Value).Elem", "(internal/reflectlite.Value).Set"], unfollowed := true, recurses := true, named := ["errors.errorType"], apart := false, laid := [("errors.errorType", laid_errors_errorType)] }
def ClutterRunsSaid : Prop := clutterRunsRow.holds Tryd.pinned (OpenSpec.ofChange clutterRunsSpec)

/-- ITS FALSE NEIGHBOUR: 'it returns false'. Refute it at one input. -/
def clutterRunsWrong : ChangeSpec := { name := "clutterRuns", fn := fun _ => fun
  | [d1, d2, d3] => { results := [.lit (.bool false)], args := [d1, d2, d3] }
  | _ => none }
def ClutterRunsWrongFalsely : Prop := clutterRunsRow.holds Tryd.pinned (OpenSpec.ofChange clutterRunsWrong)

/-- 'radomelaw37.ClutterSums': WHATEVER THE INPUT: true; the input reads as it did. -/
def clutterSumsSpec : ChangeSpec := { name := "clutterSums", fn := fun _ => fun
  | [d1, d2] => { results := [.lit (.bool true)], args := [d1, d2] }
  | _ => none }
def clutterSumsRow : OpenClaim := { program := "ytoijknggnlbopaadoor", sum := "d441410f87446ddc615f14bd708755ac379c5f0d9297f88ca139b7c53d71aae7", func := "radome/radomelaw37.ClutterSums", spec := "clutterSums", inPlace := ["internal/reflectlite.ValueOf", "(internal/reflectlite.Value).Type", "(internal/reflectlite.Value).IsNil", "internal/reflectlite.TypeOf", "(internal/reflectlite.Value).Elem", "(internal/reflectlite.Value).Set"], unfollowed := true, recurses := true, named := ["errors.errorType"], apart := false, laid := [("errors.errorType", laid_errors_errorType)] }
def ClutterSumsSaid : Prop := clutterSumsRow.holds Tryd.pinned (OpenSpec.ofChange clutterSumsSpec)

/-- ITS FALSE NEIGHBOUR: 'it returns false'. Refute it at one input. -/
def clutterSumsWrong : ChangeSpec := { name := "clutterSums", fn := fun _ => fun
  | [d1, d2] => { results := [.lit (.bool false)], args := [d1, d2] }
  | _ => none }
def ClutterSumsWrongFalsely : Prop := clutterSumsRow.holds Tryd.pinned (OpenSpec.ofChange clutterSumsWrong)

/-- 'radomelaw19.ClusterOf': WHATEVER THE INPUT: true; the input reads as it did. -/
def clusterOfSpec : ChangeSpec := { name := "clusterOf", fn := fun _ => fun
  | [d1, d2] => { results := [.lit (.bool true)], args := [d1, d2] }
  | _ => none }
def clusterOfRow : OpenClaim := { program := "ytoijknggnlbopaadoor", sum := "d441410f87446ddc615f14bd708755ac379c5f0d9297f88ca139b7c53d71aae7", func := "radome/radomelaw19.ClusterOf", spec := "clusterOf", inPlace := ["internal/reflectlite.ValueOf", "(internal/reflectlite.Value).Type", "(internal/reflectlite.Value).IsNil", "internal/reflectlite.TypeOf", "(internal/reflectlite.Value).Elem", "(internal/reflectlite.Value).Set"], unfollowed := true, recurses := true, named := ["errors.errorType"], apart := false, laid := [("errors.errorType", laid_errors_errorType)] }
def ClusterOfSaid : Prop := clusterOfRow.holds Tryd.pinned (OpenSpec.ofChange clusterOfSpec)

/-- ITS FALSE NEIGHBOUR: 'it returns false'. Refute it at one input. -/
def clusterOfWrong : ChangeSpec := { name := "clusterOf", fn := fun _ => fun
  | [d1, d2] => { results := [.lit (.bool false)], args := [d1, d2] }
  | _ => none }
def ClusterOfWrongFalsely : Prop := clusterOfRow.holds Tryd.pinned (OpenSpec.ofChange clusterOfWrong)

/-- 'radomelaw19.ClusterParts': WHATEVER THE INPUT: true; the input reads as it did. -/
def clusterPartsSpec : ChangeSpec := { name := "clusterParts", fn := fun _ => fun
  | [d1, d2] => { results := [.lit (.bool true)], args := [d1, d2] }
  | _ => none }
def clusterPartsRow : OpenClaim := { program := "ytoijknggnlbopaadoor", sum := "d441410f87446ddc615f14bd708755ac379c5f0d9297f88ca139b7c53d71aae7", func := "radome/radomelaw19.ClusterParts", spec := "clusterParts", inPlace := ["internal/reflectlite.ValueOf", "(internal/reflectlite.Value).Type", "(internal/reflectlite.Value).IsNil", "internal/reflectlite.TypeOf", "(internal/reflectlite.Value).Elem", "(internal/reflectlite.Value).Set"], unfollowed := true, recurses := true, named := ["errors.errorType"], apart := false, laid := [("errors.errorType", laid_errors_errorType)] }
def ClusterPartsSaid : Prop := clusterPartsRow.holds Tryd.pinned (OpenSpec.ofChange clusterPartsSpec)

/-- ITS FALSE NEIGHBOUR: 'it returns false'. Refute it at one input. -/
def clusterPartsWrong : ChangeSpec := { name := "clusterParts", fn := fun _ => fun
  | [d1, d2] => { results := [.lit (.bool false)], args := [d1, d2] }
  | _ => none }
def ClusterPartsWrongFalsely : Prop := clusterPartsRow.holds Tryd.pinned (OpenSpec.ofChange clusterPartsWrong)

/- THE SECOND FORM. 'bulk': how many values and letters a reading holds, each counted each time it is reached (what is shared counts as often as it is met; a slice's spare places count too). A statement '..UptoSaid' is the law's where the arguments, and the package variables that the reading takes, are together of bulk at most 1048576: NARROWER than '..Said'. Prove '..Said' where nothing that the law and all that it calls make is longer than what came in: it says more and counts as full. Else prove '..UptoSaid'. A law counts once. -/
mutual
def uptoBulk {H : Type} : DataW H → Nat
  | .lit (.string bytes) => bytes.length + 1
  | .lit _ => 1
  | .nil => 1
  | .ptr d => uptoBulk d + 1
  | .slice elems spare => uptoBulkAll elems + uptoBulkAll spare + 1
  | .agg parts => uptoBulkAll parts + 1
  | .iface _ d => uptoBulk d + 1
  | .map entries => uptoBulkEntries entries + 1
  | .held _ => 1
def uptoBulkAll {H : Type} : List (DataW H) → Nat
  | [] => 0
  | d :: r => uptoBulk d + uptoBulkAll r
def uptoBulkEntries {H : Type} : List (Lit × DataW H) → Nat
  | [] => 0
  | x :: r => uptoBulkEntry x + uptoBulkEntries r
def uptoBulkEntry {H : Type} : Lit × DataW H → Nat
  | (.string bytes, d) => bytes.length + uptoBulk d + 1
  | (_, d) => uptoBulk d + 1
 end
def uptoSmall : (H : Type) → List (DataW H) → Bool := fun _ ds => decide (uptoBulkAll ds ≤ 1048576)
def OpenSpec.upto (s : _root_.Go.ChangeSpec) : _root_.Go.OpenSpec := { _root_.Go.OpenSpec.ofChange s with cond := some uptoSmall }

/-- 'radomelaw39.ZoneHits', WHERE WHAT IT READS IS OF BULK AT MOST 1048576: true; the input reads as it did. -/
def zoneHitsUptoRow : OpenClaim := { program := "ytoijknggnlbopaadoor", sum := "d441410f87446ddc615f14bd708755ac379c5f0d9297f88ca139b7c53d71aae7", func := "radome/radomelaw39.ZoneHits", spec := "zoneHits", inPlace := ["internal/reflectlite.ValueOf", "(internal/reflectlite.Value).Type", "(internal/reflectlite.Value).IsNil", "internal/reflectlite.TypeOf", "(internal/reflectlite.Value).Elem", "(internal/reflectlite.Value).Set"], unfollowed := true, recurses := true, named := ["errors.errorType"], apart := false, laid := [("errors.errorType", laid_errors_errorType)], narrowed := true }
def ZoneHitsUptoSaid : Prop := zoneHitsUptoRow.holds Tryd.pinned (OpenSpec.upto zoneHitsSpec)

/-- 'radomelaw39.ZoneWhere', WHERE WHAT IT READS IS OF BULK AT MOST 1048576: true; the input reads as it did. -/
def zoneWhereUptoRow : OpenClaim := { program := "ytoijknggnlbopaadoor", sum := "d441410f87446ddc615f14bd708755ac379c5f0d9297f88ca139b7c53d71aae7", func := "radome/radomelaw39.ZoneWhere", spec := "zoneWhere", inPlace := ["internal/reflectlite.ValueOf", "(internal/reflectlite.Value).Type", "(internal/reflectlite.Value).IsNil", "internal/reflectlite.TypeOf", "(internal/reflectlite.Value).Elem", "(internal/reflectlite.Value).Set"], unfollowed := true, recurses := true, named := ["errors.errorType"], apart := false, laid := [("errors.errorType", laid_errors_errorType)], narrowed := true }
def ZoneWhereUptoSaid : Prop := zoneWhereUptoRow.holds Tryd.pinned (OpenSpec.upto zoneWhereSpec)

/-- 'radomelaw37.ClutterRuns', WHERE WHAT IT READS IS OF BULK AT MOST 1048576: true; the input reads as it did. -/
def clutterRunsUptoRow : OpenClaim := { program := "ytoijknggnlbopaadoor", sum := "d441410f87446ddc615f14bd708755ac379c5f0d9297f88ca139b7c53d71aae7", func := "radome/radomelaw37.ClutterRuns", spec := "clutterRuns", inPlace := ["internal/reflectlite.ValueOf", "(internal/reflectlite.Value).Type", "(internal/reflectlite.Value).IsNil", "internal/reflectlite.TypeOf", "(internal/reflectlite.Value).Elem", "(internal/reflectlite.Value).Set"], unfollowed := true, recurses := true, named := ["errors.errorType"], apart := false, laid := [("errors.errorType", laid_errors_errorType)], narrowed := true }
def ClutterRunsUptoSaid : Prop := clutterRunsUptoRow.holds Tryd.pinned (OpenSpec.upto clutterRunsSpec)

/-- 'radomelaw37.ClutterSums', WHERE WHAT IT READS IS OF BULK AT MOST 1048576: true; the input reads as it did. -/
def clutterSumsUptoRow : OpenClaim := { program := "ytoijknggnlbopaadoor", sum := "d441410f87446ddc615f14bd708755ac379c5f0d9297f88ca139b7c53d71aae7", func := "radome/radomelaw37.ClutterSums", spec := "clutterSums", inPlace := ["internal/reflectlite.ValueOf", "(internal/reflectlite.Value).Type", "(internal/reflectlite.Value).IsNil", "internal/reflectlite.TypeOf", "(internal/reflectlite.Value).Elem", "(internal/reflectlite.Value).Set"], unfollowed := true, recurses := true, named := ["errors.errorType"], apart := false, laid := [("errors.errorType", laid_errors_errorType)], narrowed := true }
def ClutterSumsUptoSaid : Prop := clutterSumsUptoRow.holds Tryd.pinned (OpenSpec.upto clutterSumsSpec)

/-- 'radomelaw19.ClusterOf', WHERE WHAT IT READS IS OF BULK AT MOST 1048576: true; the input reads as it did. -/
def clusterOfUptoRow : OpenClaim := { program := "ytoijknggnlbopaadoor", sum := "d441410f87446ddc615f14bd708755ac379c5f0d9297f88ca139b7c53d71aae7", func := "radome/radomelaw19.ClusterOf", spec := "clusterOf", inPlace := ["internal/reflectlite.ValueOf", "(internal/reflectlite.Value).Type", "(internal/reflectlite.Value).IsNil", "internal/reflectlite.TypeOf", "(internal/reflectlite.Value).Elem", "(internal/reflectlite.Value).Set"], unfollowed := true, recurses := true, named := ["errors.errorType"], apart := false, laid := [("errors.errorType", laid_errors_errorType)], narrowed := true }
def ClusterOfUptoSaid : Prop := clusterOfUptoRow.holds Tryd.pinned (OpenSpec.upto clusterOfSpec)

/-- 'radomelaw19.ClusterParts', WHERE WHAT IT READS IS OF BULK AT MOST 1048576: true; the input reads as it did. -/
def clusterPartsUptoRow : OpenClaim := { program := "ytoijknggnlbopaadoor", sum := "d441410f87446ddc615f14bd708755ac379c5f0d9297f88ca139b7c53d71aae7", func := "radome/radomelaw19.ClusterParts", spec := "clusterParts", inPlace := ["internal/reflectlite.ValueOf", "(internal/reflectlite.Value).Type", "(internal/reflectlite.Value).IsNil", "internal/reflectlite.TypeOf", "(internal/reflectlite.Value).Elem", "(internal/reflectlite.Value).Set"], unfollowed := true, recurses := true, named := ["errors.errorType"], apart := false, laid := [("errors.errorType", laid_errors_errorType)], narrowed := true }
def ClusterPartsUptoSaid : Prop := clusterPartsUptoRow.holds Tryd.pinned (OpenSpec.upto clusterPartsSpec)

end Rows
end Go.Proofs.YtoijknggnlbopaaDoor
