/-
  No cell of these rows narrows 'for every input' (looked for: loops, veiled, ifaces, maps, wideKeys, modest, calm, conditions, laid).
  DERIVED. THE GIVEN ROWS OF THIS SEAT. 4 by the template 'for every input the law returns true; each argument reads behind the call as it read before'; 0 by the template 'total and deterministic' (their statements: YtddcfnhbedpbnaaTotals.lean).
  GIVEN WITH THE SEED: the statements are not yours to turn. If you find one false, say at which input.
  Laid BY PROGRAM, IN A SANDBOX (cutbox-rows.mjs): the forced cells as the released guide's own fill.sh prints them over the translation e9fa4d91f404c2da… (all of the seat's roots in one cut). By AI agents, Wed Nov 11 2026. No macro, syntax, notation, axiom, sorry.
-/
import Derived.Test.YtddcfnhbedpbnaaChecked
import GoSem.Claim
import GoSem.ClaimJoined
import GoSem.ClaimMapViews
import Derived.JoinedTies
import Derived.KernelRfl
namespace Go.Proofs.Ytddcfnhbedpbnaa
/- THE CELL 'sum', in the pinned program and in every row, IS THE sha256 OF THE DUMP (.gsa) THAT YtddcfnhbedpbnaaProg.lean LOADS. Nothing in Lean hashes anything: it is a label: what it is worth is what the hold of that sum in a sandbox is worth. -/
noncomputable def Try.pinned : Pinned := { name := "ytddcfnhbedpbnaa", sum := "e9fa4d91f404c2da5cedeca6b755c471b12486fd4dc8709a33a344d582e7080f", checked := Try.checked }
namespace Rows
def none {H : Type} : Left H := { results := [], args := [] }

/-- 'radomelaw31.ClockLaws': WHATEVER THE INPUT: true; the input reads as it did. -/
def clockLawsSpec : ChangeSpec := { name := "clockLaws", fn := fun _ => fun
  | [d1, d2] => { results := [.lit (.bool true)], args := [d1, d2] }
  | _ => none }
def clockLawsRow : OpenClaim := { program := "ytddcfnhbedpbnaa", sum := "e9fa4d91f404c2da5cedeca6b755c471b12486fd4dc8709a33a344d582e7080f", func := "radome/radomelaw31.ClockLaws", spec := "clockLaws", apart := false }
def ClockLawsSaid : Prop := clockLawsRow.holds Try.pinned (OpenSpec.ofChange clockLawsSpec)

/-- ITS FALSE NEIGHBOUR: 'it returns false'. Refute it at one input. -/
def clockLawsWrong : ChangeSpec := { name := "clockLaws", fn := fun _ => fun
  | [d1, d2] => { results := [.lit (.bool false)], args := [d1, d2] }
  | _ => none }
def ClockLawsWrongFalsely : Prop := clockLawsRow.holds Try.pinned (OpenSpec.ofChange clockLawsWrong)

/-- 'radomelaw04.TurnAsks': WHATEVER THE INPUT: true; the input reads as it did. -/
def turnAsksSpec : ChangeSpec := { name := "turnAsks", fn := fun _ => fun
  | [d1, d2, d3] => { results := [.lit (.bool true)], args := [d1, d2, d3] }
  | _ => none }
def turnAsksRow : OpenClaim := { program := "ytddcfnhbedpbnaa", sum := "e9fa4d91f404c2da5cedeca6b755c471b12486fd4dc8709a33a344d582e7080f", func := "radome/radomelaw04.TurnAsks", spec := "turnAsks", apart := false }
def TurnAsksSaid : Prop := turnAsksRow.holds Try.pinned (OpenSpec.ofChange turnAsksSpec)

/-- ITS FALSE NEIGHBOUR: 'it returns false'. Refute it at one input. -/
def turnAsksWrong : ChangeSpec := { name := "turnAsks", fn := fun _ => fun
  | [d1, d2, d3] => { results := [.lit (.bool false)], args := [d1, d2, d3] }
  | _ => none }
def TurnAsksWrongFalsely : Prop := turnAsksRow.holds Try.pinned (OpenSpec.ofChange turnAsksWrong)

/-- 'radomelaw04.TurnLaws': WHATEVER THE INPUT: true; the input reads as it did. -/
def turnLawsSpec : ChangeSpec := { name := "turnLaws", fn := fun _ => fun
  | [d1, d2, d3] => { results := [.lit (.bool true)], args := [d1, d2, d3] }
  | _ => none }
def turnLawsRow : OpenClaim := { program := "ytddcfnhbedpbnaa", sum := "e9fa4d91f404c2da5cedeca6b755c471b12486fd4dc8709a33a344d582e7080f", func := "radome/radomelaw04.TurnLaws", spec := "turnLaws", apart := false }
def TurnLawsSaid : Prop := turnLawsRow.holds Try.pinned (OpenSpec.ofChange turnLawsSpec)

/-- ITS FALSE NEIGHBOUR: 'it returns false'. Refute it at one input. -/
def turnLawsWrong : ChangeSpec := { name := "turnLaws", fn := fun _ => fun
  | [d1, d2, d3] => { results := [.lit (.bool false)], args := [d1, d2, d3] }
  | _ => none }
def TurnLawsWrongFalsely : Prop := turnLawsRow.holds Try.pinned (OpenSpec.ofChange turnLawsWrong)

/-- 'radomelaw23.LifeLaws': WHATEVER THE INPUT: true; the input reads as it did. -/
def lifeLawsSpec : ChangeSpec := { name := "lifeLaws", fn := fun _ => fun
  | [d1, d2] => { results := [.lit (.bool true)], args := [d1, d2] }
  | _ => none }
def lifeLawsRow : OpenClaim := { program := "ytddcfnhbedpbnaa", sum := "e9fa4d91f404c2da5cedeca6b755c471b12486fd4dc8709a33a344d582e7080f", func := "radome/radomelaw23.LifeLaws", spec := "lifeLaws", apart := false }
def LifeLawsSaid : Prop := lifeLawsRow.holds Try.pinned (OpenSpec.ofChange lifeLawsSpec)

/-- ITS FALSE NEIGHBOUR: 'it returns false'. Refute it at one input. -/
def lifeLawsWrong : ChangeSpec := { name := "lifeLaws", fn := fun _ => fun
  | [d1, d2] => { results := [.lit (.bool false)], args := [d1, d2] }
  | _ => none }
def LifeLawsWrongFalsely : Prop := lifeLawsRow.holds Try.pinned (OpenSpec.ofChange lifeLawsWrong)

/- THE SECOND FORM. 'bulk': how many values and letters a reading holds, each counted each time it is reached (what is shared counts as often as it is met; a slice's spare places count too). A statement '..UptoSaid' is the law's where the arguments, and the package variables that the reading takes, are together of bulk at most 1048576: NARROWER than '..Said'. Prove '..Said' where nothing that the law and all that it calls make is longer than what came in: it says more and counts as full. Else prove '..UptoSaid'. A law counts once. -/
mutual
def uptoBulk {H : Type} : DataW H → Nat
  | .lit (.string bytes) => bytes.length + 1
  | .lit _ => 1
  | .nil => 1
  | .ptr d => uptoBulk d + 1
  | .slice elems spare => uptoBulkAll elems + uptoBulkAll spare + 1
  | .agg parts => uptoBulkAll parts + 1
  | .iface _ d => uptoBulk d + 1
  | .map entries => uptoBulkEntries entries + 1
  | .held _ => 1
def uptoBulkAll {H : Type} : List (DataW H) → Nat
  | [] => 0
  | d :: r => uptoBulk d + uptoBulkAll r
def uptoBulkEntries {H : Type} : List (Lit × DataW H) → Nat
  | [] => 0
  | x :: r => uptoBulkEntry x + uptoBulkEntries r
def uptoBulkEntry {H : Type} : Lit × DataW H → Nat
  | (.string bytes, d) => bytes.length + uptoBulk d + 1
  | (_, d) => uptoBulk d + 1
 end
def uptoSmall : (H : Type) → List (DataW H) → Bool := fun _ ds => decide (uptoBulkAll ds ≤ 1048576)
def OpenSpec.upto (s : _root_.Go.ChangeSpec) : _root_.Go.OpenSpec := { _root_.Go.OpenSpec.ofChange s with cond := some uptoSmall }

/-- 'radomelaw31.ClockLaws', WHERE WHAT IT READS IS OF BULK AT MOST 1048576: true; the input reads as it did. -/
def clockLawsUptoRow : OpenClaim := { program := "ytddcfnhbedpbnaa", sum := "e9fa4d91f404c2da5cedeca6b755c471b12486fd4dc8709a33a344d582e7080f", func := "radome/radomelaw31.ClockLaws", spec := "clockLaws", apart := false, narrowed := true }
def ClockLawsUptoSaid : Prop := clockLawsUptoRow.holds Try.pinned (OpenSpec.upto clockLawsSpec)

/-- 'radomelaw04.TurnAsks', WHERE WHAT IT READS IS OF BULK AT MOST 1048576: true; the input reads as it did. -/
def turnAsksUptoRow : OpenClaim := { program := "ytddcfnhbedpbnaa", sum := "e9fa4d91f404c2da5cedeca6b755c471b12486fd4dc8709a33a344d582e7080f", func := "radome/radomelaw04.TurnAsks", spec := "turnAsks", apart := false, narrowed := true }
def TurnAsksUptoSaid : Prop := turnAsksUptoRow.holds Try.pinned (OpenSpec.upto turnAsksSpec)

/-- 'radomelaw04.TurnLaws', WHERE WHAT IT READS IS OF BULK AT MOST 1048576: true; the input reads as it did. -/
def turnLawsUptoRow : OpenClaim := { program := "ytddcfnhbedpbnaa", sum := "e9fa4d91f404c2da5cedeca6b755c471b12486fd4dc8709a33a344d582e7080f", func := "radome/radomelaw04.TurnLaws", spec := "turnLaws", apart := false, narrowed := true }
def TurnLawsUptoSaid : Prop := turnLawsUptoRow.holds Try.pinned (OpenSpec.upto turnLawsSpec)

/-- 'radomelaw23.LifeLaws', WHERE WHAT IT READS IS OF BULK AT MOST 1048576: true; the input reads as it did. -/
def lifeLawsUptoRow : OpenClaim := { program := "ytddcfnhbedpbnaa", sum := "e9fa4d91f404c2da5cedeca6b755c471b12486fd4dc8709a33a344d582e7080f", func := "radome/radomelaw23.LifeLaws", spec := "lifeLaws", apart := false, narrowed := true }
def LifeLawsUptoSaid : Prop := lifeLawsUptoRow.holds Try.pinned (OpenSpec.upto lifeLawsSpec)

end Rows
end Go.Proofs.Ytddcfnhbedpbnaa
