/-
  NARROWER THAN 'FOR EVERY INPUT', by the rows' own cells (each row's printed sentence says how): AuctionRuns: laid · BestRuns: laid · BestShows: laid.
  DERIVED. THE GIVEN ROWS OF THIS SEAT. 3 by the template 'for every input the law returns true; each argument reads behind the call as it read before'; 0 by the template 'total and deterministic' (their statements: YtacbficpehmlnaaDoorTotals.lean).
  GIVEN WITH THE SEED: the statements are not yours to turn. If you find one false, say at which input.
  Laid BY PROGRAM, IN A SANDBOX (cutbox-rows.mjs): the forced cells as the released guide's own fill.sh prints them over the translation e7b9fb62579a517f… (all of the seat's roots in one cut). By AI agents, Wed Nov 11 2026. No macro, syntax, notation, axiom, sorry.
-/
import Derived.Test.YtacbficpehmlnaaDoorChecked
import GoSem.Claim
import GoSem.ClaimJoined
import GoSem.ClaimMapViews
import Derived.JoinedTies
import Derived.KernelRfl
namespace Go.Proofs.YtacbficpehmlnaaDoor
/- THE CELL 'sum', in the pinned program and in every row, IS THE sha256 OF THE DUMP (.gsa) THAT YtacbficpehmlnaaDoorProg.lean LOADS. Nothing in Lean hashes anything: it is a label: what it is worth is what the hold of that sum in a sandbox is worth. -/
noncomputable def Tryd.pinned : Pinned := { name := "ytacbficpehmlnaadoor", sum := "e7b9fb62579a517f6285bb0d398c86fb6f9406d27a951b5cc7c7a9aa98305418", checked := Tryd.checked }
namespace Rows
def none {H : Type} : Left H := { results := [], args := [] }

/- WHAT THE LISTED PACKAGE-LEVEL VARIABLES READ AS WHEN THE CALL BEGINS. Each datum BY PROGRAM (the guide's laid-datum.mjs) off the statement by which the dump's own 'gosem.cut.vars' lays the variable. In a bare row this is a premise. The card (YtacbficpehmlnaaDoorCards.lean) ties it to the program's text. -/
def laid_errors_errorType {H : Type} : DataW H := .iface "internal/reflectlite.rtype" (.agg [.ptr (.lit (.string [101, 114, 114, 111, 114]))])

/-- 'radomelaw21.AuctionRuns': WHATEVER THE INPUT: true; the input reads as it did. -/
def auctionRunsSpec : ChangeSpec := { name := "auctionRuns", fn := fun _ => fun
  | [d1, d2] => { results := [.lit (.bool true)], args := [d1, d2] }
  | _ => none }
def auctionRunsRow : OpenClaim := { program := "ytacbficpehmlnaadoor", sum := "e7b9fb62579a517f6285bb0d398c86fb6f9406d27a951b5cc7c7a9aa98305418", func := "radome/radomelaw21.AuctionRuns", spec := "auctionRuns", inPlace := ["internal/reflectlite.ValueOf", "(internal/reflectlite.Value).Type", "(internal/reflectlite.Value).IsNil", "internal/reflectlite.TypeOf", "(internal/reflectlite.Value).Elem", "(internal/reflectlite.Value).Set"], unfollowed := true, recurses := true, named := ["errors.errorType"], apart := false, laid := [("errors.errorType", laid_errors_errorType)] }
def AuctionRunsSaid : Prop := auctionRunsRow.holds Tryd.pinned (OpenSpec.ofChange auctionRunsSpec)

/-- ITS FALSE NEIGHBOUR: 'it returns false'. Refute it at one input. -/
def auctionRunsWrong : ChangeSpec := { name := "auctionRuns", fn := fun _ => fun
  | [d1, d2] => { results := [.lit (.bool false)], args := [d1, d2] }
  | _ => none }
def AuctionRunsWrongFalsely : Prop := auctionRunsRow.holds Tryd.pinned (OpenSpec.ofChange auctionRunsWrong)

/-- 'radomelaw22.BestRuns': WHATEVER THE INPUT: true; the input reads as it did. -/
def bestRunsSpec : ChangeSpec := { name := "bestRuns", fn := fun _ => fun
  | [d] => { results := [.lit (.bool true)], args := [d] }
  | _ => none }
def bestRunsRow : OpenClaim := { program := "ytacbficpehmlnaadoor", sum := "e7b9fb62579a517f6285bb0d398c86fb6f9406d27a951b5cc7c7a9aa98305418", func := "radome/radomelaw22.BestRuns", spec := "bestRuns", inPlace := ["internal/reflectlite.ValueOf", "(internal/reflectlite.Value).Type", "(internal/reflectlite.Value).IsNil", "internal/reflectlite.TypeOf", "(internal/reflectlite.Value).Elem", "(internal/reflectlite.Value).Set"], unfollowed := true, recurses := true, named := ["errors.errorType"], apart := false, laid := [("errors.errorType", laid_errors_errorType)] }
def BestRunsSaid : Prop := bestRunsRow.holds Tryd.pinned (OpenSpec.ofChange bestRunsSpec)

/-- ITS FALSE NEIGHBOUR: 'it returns false'. Refute it at one input. -/
def bestRunsWrong : ChangeSpec := { name := "bestRuns", fn := fun _ => fun
  | [d] => { results := [.lit (.bool false)], args := [d] }
  | _ => none }
def BestRunsWrongFalsely : Prop := bestRunsRow.holds Tryd.pinned (OpenSpec.ofChange bestRunsWrong)

/-- 'radomelaw22.BestShows': WHATEVER THE INPUT: true; the input reads as it did. -/
def bestShowsSpec : ChangeSpec := { name := "bestShows", fn := fun _ => fun
  | [d1, d2, d3] => { results := [.lit (.bool true)], args := [d1, d2, d3] }
  | _ => none }
def bestShowsRow : OpenClaim := { program := "ytacbficpehmlnaadoor", sum := "e7b9fb62579a517f6285bb0d398c86fb6f9406d27a951b5cc7c7a9aa98305418", func := "radome/radomelaw22.BestShows", spec := "bestShows", inPlace := ["internal/reflectlite.ValueOf", "(internal/reflectlite.Value).Type", "(internal/reflectlite.Value).IsNil", "internal/reflectlite.TypeOf", "(internal/reflectlite.Value).Elem", "(internal/reflectlite.Value).Set"], unfollowed := true, recurses := true, named := ["errors.errorType"], apart := false, laid := [("errors.errorType", laid_errors_errorType)] }
def BestShowsSaid : Prop := bestShowsRow.holds Tryd.pinned (OpenSpec.ofChange bestShowsSpec)

/-- ITS FALSE NEIGHBOUR: 'it returns false'. Refute it at one input. -/
def bestShowsWrong : ChangeSpec := { name := "bestShows", fn := fun _ => fun
  | [d1, d2, d3] => { results := [.lit (.bool false)], args := [d1, d2, d3] }
  | _ => none }
def BestShowsWrongFalsely : Prop := bestShowsRow.holds Tryd.pinned (OpenSpec.ofChange bestShowsWrong)

/- THE SECOND FORM. 'bulk': how many values and letters a reading holds, each counted each time it is reached (what is shared counts as often as it is met; a slice's spare places count too). A statement '..UptoSaid' is the law's where the arguments, and the package variables that the reading takes, are together of bulk at most 1048576: NARROWER than '..Said'. Prove '..Said' where nothing that the law and all that it calls make is longer than what came in: it says more and counts as full. Else prove '..UptoSaid'. A law counts once. -/
mutual
def uptoBulk {H : Type} : DataW H → Nat
  | .lit (.string bytes) => bytes.length + 1
  | .lit _ => 1
  | .nil => 1
  | .ptr d => uptoBulk d + 1
  | .slice elems spare => uptoBulkAll elems + uptoBulkAll spare + 1
  | .agg parts => uptoBulkAll parts + 1
  | .iface _ d => uptoBulk d + 1
  | .map entries => uptoBulkEntries entries + 1
  | .held _ => 1
def uptoBulkAll {H : Type} : List (DataW H) → Nat
  | [] => 0
  | d :: r => uptoBulk d + uptoBulkAll r
def uptoBulkEntries {H : Type} : List (Lit × DataW H) → Nat
  | [] => 0
  | x :: r => uptoBulkEntry x + uptoBulkEntries r
def uptoBulkEntry {H : Type} : Lit × DataW H → Nat
  | (.string bytes, d) => bytes.length + uptoBulk d + 1
  | (_, d) => uptoBulk d + 1
 end
def uptoSmall : (H : Type) → List (DataW H) → Bool := fun _ ds => decide (uptoBulkAll ds ≤ 1048576)
def OpenSpec.upto (s : _root_.Go.ChangeSpec) : _root_.Go.OpenSpec := { _root_.Go.OpenSpec.ofChange s with cond := some uptoSmall }

/-- 'radomelaw21.AuctionRuns', WHERE WHAT IT READS IS OF BULK AT MOST 1048576: true; the input reads as it did. -/
def auctionRunsUptoRow : OpenClaim := { program := "ytacbficpehmlnaadoor", sum := "e7b9fb62579a517f6285bb0d398c86fb6f9406d27a951b5cc7c7a9aa98305418", func := "radome/radomelaw21.AuctionRuns", spec := "auctionRuns", inPlace := ["internal/reflectlite.ValueOf", "(internal/reflectlite.Value).Type", "(internal/reflectlite.Value).IsNil", "internal/reflectlite.TypeOf", "(internal/reflectlite.Value).Elem", "(internal/reflectlite.Value).Set"], unfollowed := true, recurses := true, named := ["errors.errorType"], apart := false, laid := [("errors.errorType", laid_errors_errorType)], narrowed := true }
def AuctionRunsUptoSaid : Prop := auctionRunsUptoRow.holds Tryd.pinned (OpenSpec.upto auctionRunsSpec)

/-- 'radomelaw22.BestRuns', WHERE WHAT IT READS IS OF BULK AT MOST 1048576: true; the input reads as it did. -/
def bestRunsUptoRow : OpenClaim := { program := "ytacbficpehmlnaadoor", sum := "e7b9fb62579a517f6285bb0d398c86fb6f9406d27a951b5cc7c7a9aa98305418", func := "radome/radomelaw22.BestRuns", spec := "bestRuns", inPlace := ["internal/reflectlite.ValueOf", "(internal/reflectlite.Value).Type", "(internal/reflectlite.Value).IsNil", "internal/reflectlite.TypeOf", "(internal/reflectlite.Value).Elem", "(internal/reflectlite.Value).Set"], unfollowed := true, recurses := true, named := ["errors.errorType"], apart := false, laid := [("errors.errorType", laid_errors_errorType)], narrowed := true }
def BestRunsUptoSaid : Prop := bestRunsUptoRow.holds Tryd.pinned (OpenSpec.upto bestRunsSpec)

/-- 'radomelaw22.BestShows', WHERE WHAT IT READS IS OF BULK AT MOST 1048576: true; the input reads as it did. -/
def bestShowsUptoRow : OpenClaim := { program := "ytacbficpehmlnaadoor", sum := "e7b9fb62579a517f6285bb0d398c86fb6f9406d27a951b5cc7c7a9aa98305418", func := "radome/radomelaw22.BestShows", spec := "bestShows", inPlace := ["internal/reflectlite.ValueOf", "(internal/reflectlite.Value).Type", "(internal/reflectlite.Value).IsNil", "internal/reflectlite.TypeOf", "(internal/reflectlite.Value).Elem", "(internal/reflectlite.Value).Set"], unfollowed := true, recurses := true, named := ["errors.errorType"], apart := false, laid := [("errors.errorType", laid_errors_errorType)], narrowed := true }
def BestShowsUptoSaid : Prop := bestShowsUptoRow.holds Tryd.pinned (OpenSpec.upto bestShowsSpec)

end Rows
end Go.Proofs.YtacbficpehmlnaaDoor
