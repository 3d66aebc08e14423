/-
  NARROWER THAN 'FOR EVERY INPUT', by the rows' own cells (each row's printed sentence says how): ReportWrites: laid · FspecReads: laid · FspecBack: laid · CatWrites: laid · CatBack: laid.
  DERIVED. THE GIVEN ROWS OF THIS SEAT. 5 by the template 'for every input the law returns true; each argument reads behind the call as it read before'; 0 by the template 'total and deterministic' (their statements: YtlokgnjlnefbbaaDoorTotals.lean).
  GIVEN WITH THE SEED: the statements are not yours to turn. If you find one false, say at which input.
  Laid BY PROGRAM, IN A SANDBOX (cutbox-rows.mjs): the forced cells as the released guide's own fill.sh prints them over the translation 6961fe2e779d1dd1… (all of the seat's roots in one cut). By AI agents, Wed Nov 11 2026. No macro, syntax, notation, axiom, sorry.
-/
import Derived.Test.YtlokgnjlnefbbaaDoorChecked
import GoSem.Claim
import GoSem.ClaimJoined
import GoSem.ClaimMapViews
import Derived.JoinedTies
import Derived.KernelRfl
namespace Go.Proofs.YtlokgnjlnefbbaaDoor
/- THE CELL 'sum', in the pinned program and in every row, IS THE sha256 OF THE DUMP (.gsa) THAT YtlokgnjlnefbbaaDoorProg.lean LOADS. Nothing in Lean hashes anything: it is a label: what it is worth is what the hold of that sum in a sandbox is worth. -/
noncomputable def Tryd.pinned : Pinned := { name := "ytlokgnjlnefbbaadoor", sum := "6961fe2e779d1dd1dc4d5507caf2ed1b2686248bbe63f3b7dd3546c4dd7479b0", checked := Tryd.checked }
namespace Rows
def none {H : Type} : Left H := { results := [], args := [] }

/- WHAT THE LISTED PACKAGE-LEVEL VARIABLES READ AS WHEN THE CALL BEGINS. Each datum BY PROGRAM (the guide's laid-datum.mjs) off the statement by which the dump's own 'gosem.cut.vars' lays the variable. In a bare row this is a premise. The card (YtlokgnjlnefbbaaDoorCards.lean) ties it to the program's text. -/
def laid_errors_errorType {H : Type} : DataW H := .iface "internal/reflectlite.rtype" (.agg [.ptr (.lit (.string [101, 114, 114, 111, 114]))])

/-- 'radomelaw29.ReportWrites': WHATEVER THE INPUT: true; the input reads as it did. -/
def reportWritesSpec : ChangeSpec := { name := "reportWrites", fn := fun _ => fun
  | [d1, d2, d3] => { results := [.lit (.bool true)], args := [d1, d2, d3] }
  | _ => none }
def reportWritesRow : OpenClaim := { program := "ytlokgnjlnefbbaadoor", sum := "6961fe2e779d1dd1dc4d5507caf2ed1b2686248bbe63f3b7dd3546c4dd7479b0", func := "radome/radomelaw29.ReportWrites", spec := "reportWrites", inPlace := ["internal/reflectlite.ValueOf", "(internal/reflectlite.Value).Type", "(internal/reflectlite.Value).IsNil", "internal/reflectlite.TypeOf", "(internal/reflectlite.Value).Elem", "(internal/reflectlite.Value).Set"], unfollowed := true, recurses := true, named := ["errors.errorType"], apart := false, laid := [("errors.errorType", laid_errors_errorType)] }
def ReportWritesSaid : Prop := reportWritesRow.holds Tryd.pinned (OpenSpec.ofChange reportWritesSpec)

/-- ITS FALSE NEIGHBOUR: 'it returns false'. Refute it at one input. -/
def reportWritesWrong : ChangeSpec := { name := "reportWrites", fn := fun _ => fun
  | [d1, d2, d3] => { results := [.lit (.bool false)], args := [d1, d2, d3] }
  | _ => none }
def ReportWritesWrongFalsely : Prop := reportWritesRow.holds Tryd.pinned (OpenSpec.ofChange reportWritesWrong)

/-- 'radomelaw27.FspecReads': WHATEVER THE INPUT: true; the input reads as it did. -/
def fspecReadsSpec : ChangeSpec := { name := "fspecReads", fn := fun _ => fun
  | [d1, d2, d3] => { results := [.lit (.bool true)], args := [d1, d2, d3] }
  | _ => none }
def fspecReadsRow : OpenClaim := { program := "ytlokgnjlnefbbaadoor", sum := "6961fe2e779d1dd1dc4d5507caf2ed1b2686248bbe63f3b7dd3546c4dd7479b0", func := "radome/radomelaw27.FspecReads", spec := "fspecReads", inPlace := ["internal/reflectlite.ValueOf", "(internal/reflectlite.Value).Type", "(internal/reflectlite.Value).IsNil", "internal/reflectlite.TypeOf", "(internal/reflectlite.Value).Elem", "(internal/reflectlite.Value).Set"], unfollowed := true, recurses := true, named := ["errors.errorType"], apart := false, laid := [("errors.errorType", laid_errors_errorType)] }
def FspecReadsSaid : Prop := fspecReadsRow.holds Tryd.pinned (OpenSpec.ofChange fspecReadsSpec)

/-- ITS FALSE NEIGHBOUR: 'it returns false'. Refute it at one input. -/
def fspecReadsWrong : ChangeSpec := { name := "fspecReads", fn := fun _ => fun
  | [d1, d2, d3] => { results := [.lit (.bool false)], args := [d1, d2, d3] }
  | _ => none }
def FspecReadsWrongFalsely : Prop := fspecReadsRow.holds Tryd.pinned (OpenSpec.ofChange fspecReadsWrong)

/-- 'radomelaw27.FspecBack': WHATEVER THE INPUT: true; the input reads as it did. -/
def fspecBackSpec : ChangeSpec := { name := "fspecBack", fn := fun _ => fun
  | [d1, d2] => { results := [.lit (.bool true)], args := [d1, d2] }
  | _ => none }
def fspecBackRow : OpenClaim := { program := "ytlokgnjlnefbbaadoor", sum := "6961fe2e779d1dd1dc4d5507caf2ed1b2686248bbe63f3b7dd3546c4dd7479b0", func := "radome/radomelaw27.FspecBack", spec := "fspecBack", inPlace := ["internal/reflectlite.ValueOf", "(internal/reflectlite.Value).Type", "(internal/reflectlite.Value).IsNil", "internal/reflectlite.TypeOf", "(internal/reflectlite.Value).Elem", "(internal/reflectlite.Value).Set"], unfollowed := true, recurses := true, named := ["errors.errorType"], apart := false, laid := [("errors.errorType", laid_errors_errorType)] }
def FspecBackSaid : Prop := fspecBackRow.holds Tryd.pinned (OpenSpec.ofChange fspecBackSpec)

/-- ITS FALSE NEIGHBOUR: 'it returns false'. Refute it at one input. -/
def fspecBackWrong : ChangeSpec := { name := "fspecBack", fn := fun _ => fun
  | [d1, d2] => { results := [.lit (.bool false)], args := [d1, d2] }
  | _ => none }
def FspecBackWrongFalsely : Prop := fspecBackRow.holds Tryd.pinned (OpenSpec.ofChange fspecBackWrong)

/-- 'radomelaw28.CatWrites': WHATEVER THE INPUT: true; the input reads as it did. -/
def catWritesSpec : ChangeSpec := { name := "catWrites", fn := fun _ => fun
  | [d] => { results := [.lit (.bool true)], args := [d] }
  | _ => none }
def catWritesRow : OpenClaim := { program := "ytlokgnjlnefbbaadoor", sum := "6961fe2e779d1dd1dc4d5507caf2ed1b2686248bbe63f3b7dd3546c4dd7479b0", func := "radome/radomelaw28.CatWrites", spec := "catWrites", inPlace := ["internal/reflectlite.TypeOf", "internal/reflectlite.ValueOf", "(internal/reflectlite.Value).Type", "(internal/reflectlite.Value).IsNil", "(internal/reflectlite.Value).Elem", "(internal/reflectlite.Value).Set"], unfollowed := true, recurses := true, named := ["errors.errorType"], apart := false, laid := [("errors.errorType", laid_errors_errorType)] }
def CatWritesSaid : Prop := catWritesRow.holds Tryd.pinned (OpenSpec.ofChange catWritesSpec)

/-- ITS FALSE NEIGHBOUR: 'it returns false'. Refute it at one input. -/
def catWritesWrong : ChangeSpec := { name := "catWrites", fn := fun _ => fun
  | [d] => { results := [.lit (.bool false)], args := [d] }
  | _ => none }
def CatWritesWrongFalsely : Prop := catWritesRow.holds Tryd.pinned (OpenSpec.ofChange catWritesWrong)

/-- 'radomelaw28.CatBack': WHATEVER THE INPUT: true; the input reads as it did. -/
def catBackSpec : ChangeSpec := { name := "catBack", fn := fun _ => fun
  | [d1, d2, d3] => { results := [.lit (.bool true)], args := [d1, d2, d3] }
  | _ => none }
def catBackRow : OpenClaim := { program := "ytlokgnjlnefbbaadoor", sum := "6961fe2e779d1dd1dc4d5507caf2ed1b2686248bbe63f3b7dd3546c4dd7479b0", func := "radome/radomelaw28.CatBack", spec := "catBack", inPlace := ["internal/reflectlite.TypeOf", "internal/reflectlite.ValueOf", "(internal/reflectlite.Value).Type", "(internal/reflectlite.Value).IsNil", "(internal/reflectlite.Value).Elem", "(internal/reflectlite.Value).Set"], unfollowed := true, recurses := true, named := ["errors.errorType"], apart := false, laid := [("errors.errorType", laid_errors_errorType)] }
def CatBackSaid : Prop := catBackRow.holds Tryd.pinned (OpenSpec.ofChange catBackSpec)

/-- ITS FALSE NEIGHBOUR: 'it returns false'. Refute it at one input. -/
def catBackWrong : ChangeSpec := { name := "catBack", fn := fun _ => fun
  | [d1, d2, d3] => { results := [.lit (.bool false)], args := [d1, d2, d3] }
  | _ => none }
def CatBackWrongFalsely : Prop := catBackRow.holds Tryd.pinned (OpenSpec.ofChange catBackWrong)

/- THE SECOND FORM. 'bulk': how many values and letters a reading holds, each counted each time it is reached (what is shared counts as often as it is met; a slice's spare places count too). A statement '..UptoSaid' is the law's where the arguments, and the package variables that the reading takes, are together of bulk at most 1048576: NARROWER than '..Said'. Prove '..Said' where nothing that the law and all that it calls make is longer than what came in: it says more and counts as full. Else prove '..UptoSaid'. A law counts once. -/
mutual
def uptoBulk {H : Type} : DataW H → Nat
  | .lit (.string bytes) => bytes.length + 1
  | .lit _ => 1
  | .nil => 1
  | .ptr d => uptoBulk d + 1
  | .slice elems spare => uptoBulkAll elems + uptoBulkAll spare + 1
  | .agg parts => uptoBulkAll parts + 1
  | .iface _ d => uptoBulk d + 1
  | .map entries => uptoBulkEntries entries + 1
  | .held _ => 1
def uptoBulkAll {H : Type} : List (DataW H) → Nat
  | [] => 0
  | d :: r => uptoBulk d + uptoBulkAll r
def uptoBulkEntries {H : Type} : List (Lit × DataW H) → Nat
  | [] => 0
  | x :: r => uptoBulkEntry x + uptoBulkEntries r
def uptoBulkEntry {H : Type} : Lit × DataW H → Nat
  | (.string bytes, d) => bytes.length + uptoBulk d + 1
  | (_, d) => uptoBulk d + 1
 end
def uptoSmall : (H : Type) → List (DataW H) → Bool := fun _ ds => decide (uptoBulkAll ds ≤ 1048576)
def OpenSpec.upto (s : _root_.Go.ChangeSpec) : _root_.Go.OpenSpec := { _root_.Go.OpenSpec.ofChange s with cond := some uptoSmall }

/-- 'radomelaw29.ReportWrites', WHERE WHAT IT READS IS OF BULK AT MOST 1048576: true; the input reads as it did. -/
def reportWritesUptoRow : OpenClaim := { program := "ytlokgnjlnefbbaadoor", sum := "6961fe2e779d1dd1dc4d5507caf2ed1b2686248bbe63f3b7dd3546c4dd7479b0", func := "radome/radomelaw29.ReportWrites", spec := "reportWrites", inPlace := ["internal/reflectlite.ValueOf", "(internal/reflectlite.Value).Type", "(internal/reflectlite.Value).IsNil", "internal/reflectlite.TypeOf", "(internal/reflectlite.Value).Elem", "(internal/reflectlite.Value).Set"], unfollowed := true, recurses := true, named := ["errors.errorType"], apart := false, laid := [("errors.errorType", laid_errors_errorType)], narrowed := true }
def ReportWritesUptoSaid : Prop := reportWritesUptoRow.holds Tryd.pinned (OpenSpec.upto reportWritesSpec)

/-- 'radomelaw27.FspecReads', WHERE WHAT IT READS IS OF BULK AT MOST 1048576: true; the input reads as it did. -/
def fspecReadsUptoRow : OpenClaim := { program := "ytlokgnjlnefbbaadoor", sum := "6961fe2e779d1dd1dc4d5507caf2ed1b2686248bbe63f3b7dd3546c4dd7479b0", func := "radome/radomelaw27.FspecReads", spec := "fspecReads", inPlace := ["internal/reflectlite.ValueOf", "(internal/reflectlite.Value).Type", "(internal/reflectlite.Value).IsNil", "internal/reflectlite.TypeOf", "(internal/reflectlite.Value).Elem", "(internal/reflectlite.Value).Set"], unfollowed := true, recurses := true, named := ["errors.errorType"], apart := false, laid := [("errors.errorType", laid_errors_errorType)], narrowed := true }
def FspecReadsUptoSaid : Prop := fspecReadsUptoRow.holds Tryd.pinned (OpenSpec.upto fspecReadsSpec)

/-- 'radomelaw27.FspecBack', WHERE WHAT IT READS IS OF BULK AT MOST 1048576: true; the input reads as it did. -/
def fspecBackUptoRow : OpenClaim := { program := "ytlokgnjlnefbbaadoor", sum := "6961fe2e779d1dd1dc4d5507caf2ed1b2686248bbe63f3b7dd3546c4dd7479b0", func := "radome/radomelaw27.FspecBack", spec := "fspecBack", inPlace := ["internal/reflectlite.ValueOf", "(internal/reflectlite.Value).Type", "(internal/reflectlite.Value).IsNil", "internal/reflectlite.TypeOf", "(internal/reflectlite.Value).Elem", "(internal/reflectlite.Value).Set"], unfollowed := true, recurses := true, named := ["errors.errorType"], apart := false, laid := [("errors.errorType", laid_errors_errorType)], narrowed := true }
def FspecBackUptoSaid : Prop := fspecBackUptoRow.holds Tryd.pinned (OpenSpec.upto fspecBackSpec)

/-- 'radomelaw28.CatWrites', WHERE WHAT IT READS IS OF BULK AT MOST 1048576: true; the input reads as it did. -/
def catWritesUptoRow : OpenClaim := { program := "ytlokgnjlnefbbaadoor", sum := "6961fe2e779d1dd1dc4d5507caf2ed1b2686248bbe63f3b7dd3546c4dd7479b0", func := "radome/radomelaw28.CatWrites", spec := "catWrites", inPlace := ["internal/reflectlite.TypeOf", "internal/reflectlite.ValueOf", "(internal/reflectlite.Value).Type", "(internal/reflectlite.Value).IsNil", "(internal/reflectlite.Value).Elem", "(internal/reflectlite.Value).Set"], unfollowed := true, recurses := true, named := ["errors.errorType"], apart := false, laid := [("errors.errorType", laid_errors_errorType)], narrowed := true }
def CatWritesUptoSaid : Prop := catWritesUptoRow.holds Tryd.pinned (OpenSpec.upto catWritesSpec)

/-- 'radomelaw28.CatBack', WHERE WHAT IT READS IS OF BULK AT MOST 1048576: true; the input reads as it did. -/
def catBackUptoRow : OpenClaim := { program := "ytlokgnjlnefbbaadoor", sum := "6961fe2e779d1dd1dc4d5507caf2ed1b2686248bbe63f3b7dd3546c4dd7479b0", func := "radome/radomelaw28.CatBack", spec := "catBack", inPlace := ["internal/reflectlite.TypeOf", "internal/reflectlite.ValueOf", "(internal/reflectlite.Value).Type", "(internal/reflectlite.Value).IsNil", "(internal/reflectlite.Value).Elem", "(internal/reflectlite.Value).Set"], unfollowed := true, recurses := true, named := ["errors.errorType"], apart := false, laid := [("errors.errorType", laid_errors_errorType)], narrowed := true }
def CatBackUptoSaid : Prop := catBackUptoRow.holds Tryd.pinned (OpenSpec.upto catBackSpec)

end Rows
end Go.Proofs.YtlokgnjlnefbbaaDoor
