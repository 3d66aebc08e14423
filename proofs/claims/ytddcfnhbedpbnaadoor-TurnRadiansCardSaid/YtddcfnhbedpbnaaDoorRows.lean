/-
  NARROWER THAN 'FOR EVERY INPUT', by the rows' own cells (each row's printed sentence says how): ClockAsks: laid · TurnRadians: laid · LifeRuns: laid · LifeRaw: laid.
  DERIVED. THE GIVEN ROWS OF THIS SEAT. 4 by the template 'for every input the law returns true; each argument reads behind the call as it read before'; 0 by the template 'total and deterministic' (their statements: YtddcfnhbedpbnaaDoorTotals.lean).
  GIVEN WITH THE SEED: the statements are not yours to turn. If you find one false, say at which input.
  Laid BY PROGRAM, IN A SANDBOX (cutbox-rows.mjs): the forced cells as the released guide's own fill.sh prints them over the translation a93d679a3c2788ad… (all of the seat's roots in one cut). By AI agents, Wed Nov 11 2026. No macro, syntax, notation, axiom, sorry.
-/
import Derived.Test.YtddcfnhbedpbnaaDoorChecked
import GoSem.Claim
import GoSem.ClaimJoined
import GoSem.ClaimMapViews
import Derived.JoinedTies
import Derived.KernelRfl
namespace Go.Proofs.YtddcfnhbedpbnaaDoor
/- THE CELL 'sum', in the pinned program and in every row, IS THE sha256 OF THE DUMP (.gsa) THAT YtddcfnhbedpbnaaDoorProg.lean LOADS. Nothing in Lean hashes anything: it is a label: what it is worth is what the hold of that sum in a sandbox is worth. -/
noncomputable def Tryd.pinned : Pinned := { name := "ytddcfnhbedpbnaadoor", sum := "a93d679a3c2788ade9e6f37f552f5bddf1fbf16f6817bdd5781c10dedb81aa49", checked := Tryd.checked }
namespace Rows
def none {H : Type} : Left H := { results := [], args := [] }

/- WHAT THE LISTED PACKAGE-LEVEL VARIABLES READ AS WHEN THE CALL BEGINS. Each datum BY PROGRAM (the guide's laid-datum.mjs) off the statement by which the dump's own 'gosem.cut.vars' lays the variable. In a bare row this is a premise. The card (YtddcfnhbedpbnaaDoorCards.lean) ties it to the program's text. -/
def laid_errors_errorType {H : Type} : DataW H := .iface "internal/reflectlite.rtype" (.agg [.ptr (.lit (.string [101, 114, 114, 111, 114]))])

/-- 'radomelaw31.ClockAsks': WHATEVER THE INPUT: true; the input reads as it did. -/
def clockAsksSpec : ChangeSpec := { name := "clockAsks", fn := fun _ => fun
  | [d1, d2, d3] => { results := [.lit (.bool true)], args := [d1, d2, d3] }
  | _ => none }
def clockAsksRow : OpenClaim := { program := "ytddcfnhbedpbnaadoor", sum := "a93d679a3c2788ade9e6f37f552f5bddf1fbf16f6817bdd5781c10dedb81aa49", func := "radome/radomelaw31.ClockAsks", spec := "clockAsks", inPlace := ["internal/reflectlite.ValueOf", "(internal/reflectlite.Value).Type", "(internal/reflectlite.Value).IsNil", "internal/reflectlite.TypeOf", "(internal/reflectlite.Value).Elem", "(internal/reflectlite.Value).Set"], unfollowed := true, recurses := true, named := ["errors.errorType"], apart := false, laid := [("errors.errorType", laid_errors_errorType)] }
def ClockAsksSaid : Prop := clockAsksRow.holds Tryd.pinned (OpenSpec.ofChange clockAsksSpec)

/-- ITS FALSE NEIGHBOUR: 'it returns false'. Refute it at one input. -/
def clockAsksWrong : ChangeSpec := { name := "clockAsks", fn := fun _ => fun
  | [d1, d2, d3] => { results := [.lit (.bool false)], args := [d1, d2, d3] }
  | _ => none }
def ClockAsksWrongFalsely : Prop := clockAsksRow.holds Tryd.pinned (OpenSpec.ofChange clockAsksWrong)

/-- 'radomelaw04.TurnRadians': WHATEVER THE INPUT: true; the input reads as it did. -/
def turnRadiansSpec : ChangeSpec := { name := "turnRadians", fn := fun _ => fun
  | [d1, d2] => { results := [.lit (.bool true)], args := [d1, d2] }
  | _ => none }
def turnRadiansRow : OpenClaim := { program := "ytddcfnhbedpbnaadoor", sum := "a93d679a3c2788ade9e6f37f552f5bddf1fbf16f6817bdd5781c10dedb81aa49", func := "radome/radomelaw04.TurnRadians", spec := "turnRadians", inPlace := ["internal/reflectlite.ValueOf", "(internal/reflectlite.Value).Type", "(internal/reflectlite.Value).IsNil", "internal/reflectlite.TypeOf", "(internal/reflectlite.Value).Elem", "(internal/reflectlite.Value).Set"], unfollowed := true, recurses := true, named := ["errors.errorType"], apart := false, laid := [("errors.errorType", laid_errors_errorType)] }
def TurnRadiansSaid : Prop := turnRadiansRow.holds Tryd.pinned (OpenSpec.ofChange turnRadiansSpec)

/-- ITS FALSE NEIGHBOUR: 'it returns false'. Refute it at one input. -/
def turnRadiansWrong : ChangeSpec := { name := "turnRadians", fn := fun _ => fun
  | [d1, d2] => { results := [.lit (.bool false)], args := [d1, d2] }
  | _ => none }
def TurnRadiansWrongFalsely : Prop := turnRadiansRow.holds Tryd.pinned (OpenSpec.ofChange turnRadiansWrong)

/-- 'radomelaw23.LifeRuns': WHATEVER THE INPUT: true; the input reads as it did. -/
def lifeRunsSpec : ChangeSpec := { name := "lifeRuns", fn := fun _ => fun
  | [d1, d2] => { results := [.lit (.bool true)], args := [d1, d2] }
  | _ => none }
def lifeRunsRow : OpenClaim := { program := "ytddcfnhbedpbnaadoor", sum := "a93d679a3c2788ade9e6f37f552f5bddf1fbf16f6817bdd5781c10dedb81aa49", func := "radome/radomelaw23.LifeRuns", spec := "lifeRuns", inPlace := ["internal/reflectlite.ValueOf", "(internal/reflectlite.Value).Type", "(internal/reflectlite.Value).IsNil", "internal/reflectlite.TypeOf", "(internal/reflectlite.Value).Elem", "(internal/reflectlite.Value).Set"], unfollowed := true, recurses := true, named := ["errors.errorType"], apart := false, laid := [("errors.errorType", laid_errors_errorType)] }
def LifeRunsSaid : Prop := lifeRunsRow.holds Tryd.pinned (OpenSpec.ofChange lifeRunsSpec)

/-- ITS FALSE NEIGHBOUR: 'it returns false'. Refute it at one input. -/
def lifeRunsWrong : ChangeSpec := { name := "lifeRuns", fn := fun _ => fun
  | [d1, d2] => { results := [.lit (.bool false)], args := [d1, d2] }
  | _ => none }
def LifeRunsWrongFalsely : Prop := lifeRunsRow.holds Tryd.pinned (OpenSpec.ofChange lifeRunsWrong)

/-- 'radomelaw23.LifeRaw': WHATEVER THE INPUT: true; the input reads as it did. -/
def lifeRawSpec : ChangeSpec := { name := "lifeRaw", fn := fun _ => fun
  | [d1, d2, d3] => { results := [.lit (.bool true)], args := [d1, d2, d3] }
  | _ => none }
def lifeRawRow : OpenClaim := { program := "ytddcfnhbedpbnaadoor", sum := "a93d679a3c2788ade9e6f37f552f5bddf1fbf16f6817bdd5781c10dedb81aa49", func := "radome/radomelaw23.LifeRaw", spec := "lifeRaw", inPlace := ["internal/reflectlite.ValueOf", "(internal/reflectlite.Value).Type", "(internal/reflectlite.Value).IsNil", "internal/reflectlite.TypeOf", "(internal/reflectlite.Value).Elem", "(internal/reflectlite.Value).Set"], unfollowed := true, recurses := true, named := ["errors.errorType"], apart := false, laid := [("errors.errorType", laid_errors_errorType)] }
def LifeRawSaid : Prop := lifeRawRow.holds Tryd.pinned (OpenSpec.ofChange lifeRawSpec)

/-- ITS FALSE NEIGHBOUR: 'it returns false'. Refute it at one input. -/
def lifeRawWrong : ChangeSpec := { name := "lifeRaw", fn := fun _ => fun
  | [d1, d2, d3] => { results := [.lit (.bool false)], args := [d1, d2, d3] }
  | _ => none }
def LifeRawWrongFalsely : Prop := lifeRawRow.holds Tryd.pinned (OpenSpec.ofChange lifeRawWrong)

/- THE SECOND FORM. 'bulk': how many values and letters a reading holds, each counted each time it is reached (what is shared counts as often as it is met; a slice's spare places count too). A statement '..UptoSaid' is the law's where the arguments, and the package variables that the reading takes, are together of bulk at most 1048576: NARROWER than '..Said'. Prove '..Said' where nothing that the law and all that it calls make is longer than what came in: it says more and counts as full. Else prove '..UptoSaid'. A law counts once. -/
mutual
def uptoBulk {H : Type} : DataW H → Nat
  | .lit (.string bytes) => bytes.length + 1
  | .lit _ => 1
  | .nil => 1
  | .ptr d => uptoBulk d + 1
  | .slice elems spare => uptoBulkAll elems + uptoBulkAll spare + 1
  | .agg parts => uptoBulkAll parts + 1
  | .iface _ d => uptoBulk d + 1
  | .map entries => uptoBulkEntries entries + 1
  | .held _ => 1
def uptoBulkAll {H : Type} : List (DataW H) → Nat
  | [] => 0
  | d :: r => uptoBulk d + uptoBulkAll r
def uptoBulkEntries {H : Type} : List (Lit × DataW H) → Nat
  | [] => 0
  | x :: r => uptoBulkEntry x + uptoBulkEntries r
def uptoBulkEntry {H : Type} : Lit × DataW H → Nat
  | (.string bytes, d) => bytes.length + uptoBulk d + 1
  | (_, d) => uptoBulk d + 1
 end
def uptoSmall : (H : Type) → List (DataW H) → Bool := fun _ ds => decide (uptoBulkAll ds ≤ 1048576)
def OpenSpec.upto (s : _root_.Go.ChangeSpec) : _root_.Go.OpenSpec := { _root_.Go.OpenSpec.ofChange s with cond := some uptoSmall }

/-- 'radomelaw31.ClockAsks', WHERE WHAT IT READS IS OF BULK AT MOST 1048576: true; the input reads as it did. -/
def clockAsksUptoRow : OpenClaim := { program := "ytddcfnhbedpbnaadoor", sum := "a93d679a3c2788ade9e6f37f552f5bddf1fbf16f6817bdd5781c10dedb81aa49", func := "radome/radomelaw31.ClockAsks", spec := "clockAsks", inPlace := ["internal/reflectlite.ValueOf", "(internal/reflectlite.Value).Type", "(internal/reflectlite.Value).IsNil", "internal/reflectlite.TypeOf", "(internal/reflectlite.Value).Elem", "(internal/reflectlite.Value).Set"], unfollowed := true, recurses := true, named := ["errors.errorType"], apart := false, laid := [("errors.errorType", laid_errors_errorType)], narrowed := true }
def ClockAsksUptoSaid : Prop := clockAsksUptoRow.holds Tryd.pinned (OpenSpec.upto clockAsksSpec)

/-- 'radomelaw04.TurnRadians', WHERE WHAT IT READS IS OF BULK AT MOST 1048576: true; the input reads as it did. -/
def turnRadiansUptoRow : OpenClaim := { program := "ytddcfnhbedpbnaadoor", sum := "a93d679a3c2788ade9e6f37f552f5bddf1fbf16f6817bdd5781c10dedb81aa49", func := "radome/radomelaw04.TurnRadians", spec := "turnRadians", inPlace := ["internal/reflectlite.ValueOf", "(internal/reflectlite.Value).Type", "(internal/reflectlite.Value).IsNil", "internal/reflectlite.TypeOf", "(internal/reflectlite.Value).Elem", "(internal/reflectlite.Value).Set"], unfollowed := true, recurses := true, named := ["errors.errorType"], apart := false, laid := [("errors.errorType", laid_errors_errorType)], narrowed := true }
def TurnRadiansUptoSaid : Prop := turnRadiansUptoRow.holds Tryd.pinned (OpenSpec.upto turnRadiansSpec)

/-- 'radomelaw23.LifeRuns', WHERE WHAT IT READS IS OF BULK AT MOST 1048576: true; the input reads as it did. -/
def lifeRunsUptoRow : OpenClaim := { program := "ytddcfnhbedpbnaadoor", sum := "a93d679a3c2788ade9e6f37f552f5bddf1fbf16f6817bdd5781c10dedb81aa49", func := "radome/radomelaw23.LifeRuns", spec := "lifeRuns", inPlace := ["internal/reflectlite.ValueOf", "(internal/reflectlite.Value).Type", "(internal/reflectlite.Value).IsNil", "internal/reflectlite.TypeOf", "(internal/reflectlite.Value).Elem", "(internal/reflectlite.Value).Set"], unfollowed := true, recurses := true, named := ["errors.errorType"], apart := false, laid := [("errors.errorType", laid_errors_errorType)], narrowed := true }
def LifeRunsUptoSaid : Prop := lifeRunsUptoRow.holds Tryd.pinned (OpenSpec.upto lifeRunsSpec)

/-- 'radomelaw23.LifeRaw', WHERE WHAT IT READS IS OF BULK AT MOST 1048576: true; the input reads as it did. -/
def lifeRawUptoRow : OpenClaim := { program := "ytddcfnhbedpbnaadoor", sum := "a93d679a3c2788ade9e6f37f552f5bddf1fbf16f6817bdd5781c10dedb81aa49", func := "radome/radomelaw23.LifeRaw", spec := "lifeRaw", inPlace := ["internal/reflectlite.ValueOf", "(internal/reflectlite.Value).Type", "(internal/reflectlite.Value).IsNil", "internal/reflectlite.TypeOf", "(internal/reflectlite.Value).Elem", "(internal/reflectlite.Value).Set"], unfollowed := true, recurses := true, named := ["errors.errorType"], apart := false, laid := [("errors.errorType", laid_errors_errorType)], narrowed := true }
def LifeRawUptoSaid : Prop := lifeRawUptoRow.holds Tryd.pinned (OpenSpec.upto lifeRawSpec)

end Rows
end Go.Proofs.YtddcfnhbedpbnaaDoor
