/-
  No cell of these rows narrows 'for every input' (looked for: loops, veiled, ifaces, maps, wideKeys, modest, calm, conditions, laid).
  DERIVED. THE GIVEN ROWS OF THIS SEAT. 3 by the template 'for every input the law returns true; each argument reads behind the call as it read before'; 0 by the template 'total and deterministic' (their statements: YtacbficpehmlnaaTotals.lean).
  GIVEN WITH THE SEED: the statements are not yours to turn. If you find one false, say at which input.
  Laid BY PROGRAM, IN A SANDBOX (cutbox-rows.mjs): the forced cells as the released guide's own fill.sh prints them over the translation 523a110158be60e9… (all of the seat's roots in one cut). By AI agents, Wed Nov 11 2026. No macro, syntax, notation, axiom, sorry.
-/
import Derived.Test.YtacbficpehmlnaaChecked
import GoSem.Claim
import GoSem.ClaimJoined
import GoSem.ClaimMapViews
import Derived.JoinedTies
import Derived.KernelRfl
namespace Go.Proofs.Ytacbficpehmlnaa
/- THE CELL 'sum', in the pinned program and in every row, IS THE sha256 OF THE DUMP (.gsa) THAT YtacbficpehmlnaaProg.lean LOADS. Nothing in Lean hashes anything: it is a label: what it is worth is what the hold of that sum in a sandbox is worth. -/
noncomputable def Try.pinned : Pinned := { name := "ytacbficpehmlnaa", sum := "523a110158be60e9788cc5e4c21e72d7d7f72815600fedc40b82c4a0cc0a8272", checked := Try.checked }
namespace Rows
def none {H : Type} : Left H := { results := [], args := [] }

/-- 'radomelaw21.AuctionLeast': WHATEVER THE INPUT: true; the input reads as it did. -/
def auctionLeastSpec : ChangeSpec := { name := "auctionLeast", fn := fun _ => fun
  | [d] => { results := [.lit (.bool true)], args := [d] }
  | _ => none }
def auctionLeastRow : OpenClaim := { program := "ytacbficpehmlnaa", sum := "523a110158be60e9788cc5e4c21e72d7d7f72815600fedc40b82c4a0cc0a8272", func := "radome/radomelaw21.AuctionLeast", spec := "auctionLeast", recurses := true, apart := false }
def AuctionLeastSaid : Prop := auctionLeastRow.holds Try.pinned (OpenSpec.ofChange auctionLeastSpec)

/-- ITS FALSE NEIGHBOUR: 'it returns false'. Refute it at one input. -/
def auctionLeastWrong : ChangeSpec := { name := "auctionLeast", fn := fun _ => fun
  | [d] => { results := [.lit (.bool false)], args := [d] }
  | _ => none }
def AuctionLeastWrongFalsely : Prop := auctionLeastRow.holds Try.pinned (OpenSpec.ofChange auctionLeastWrong)

/-- 'radomelaw21.AuctionGiven': WHATEVER THE INPUT: true; the input reads as it did. -/
def auctionGivenSpec : ChangeSpec := { name := "auctionGiven", fn := fun _ => fun
  | [d1, d2] => { results := [.lit (.bool true)], args := [d1, d2] }
  | _ => none }
def auctionGivenRow : OpenClaim := { program := "ytacbficpehmlnaa", sum := "523a110158be60e9788cc5e4c21e72d7d7f72815600fedc40b82c4a0cc0a8272", func := "radome/radomelaw21.AuctionGiven", spec := "auctionGiven", apart := false }
def AuctionGivenSaid : Prop := auctionGivenRow.holds Try.pinned (OpenSpec.ofChange auctionGivenSpec)

/-- ITS FALSE NEIGHBOUR: 'it returns false'. Refute it at one input. -/
def auctionGivenWrong : ChangeSpec := { name := "auctionGiven", fn := fun _ => fun
  | [d1, d2] => { results := [.lit (.bool false)], args := [d1, d2] }
  | _ => none }
def AuctionGivenWrongFalsely : Prop := auctionGivenRow.holds Try.pinned (OpenSpec.ofChange auctionGivenWrong)

/-- 'radomelaw22.BestProved': WHATEVER THE INPUT: true; the input reads as it did. -/
def bestProvedSpec : ChangeSpec := { name := "bestProved", fn := fun _ => fun
  | [d1, d2] => { results := [.lit (.bool true)], args := [d1, d2] }
  | _ => none }
def bestProvedRow : OpenClaim := { program := "ytacbficpehmlnaa", sum := "523a110158be60e9788cc5e4c21e72d7d7f72815600fedc40b82c4a0cc0a8272", func := "radome/radomelaw22.BestProved", spec := "bestProved", unfollowed := true, recurses := true, apart := false }
def BestProvedSaid : Prop := bestProvedRow.holds Try.pinned (OpenSpec.ofChange bestProvedSpec)

/-- ITS FALSE NEIGHBOUR: 'it returns false'. Refute it at one input. -/
def bestProvedWrong : ChangeSpec := { name := "bestProved", fn := fun _ => fun
  | [d1, d2] => { results := [.lit (.bool false)], args := [d1, d2] }
  | _ => none }
def BestProvedWrongFalsely : Prop := bestProvedRow.holds Try.pinned (OpenSpec.ofChange bestProvedWrong)

/- THE SECOND FORM. 'bulk': how many values and letters a reading holds, each counted each time it is reached (what is shared counts as often as it is met; a slice's spare places count too). A statement '..UptoSaid' is the law's where the arguments, and the package variables that the reading takes, are together of bulk at most 1048576: NARROWER than '..Said'. Prove '..Said' where nothing that the law and all that it calls make is longer than what came in: it says more and counts as full. Else prove '..UptoSaid'. A law counts once. -/
mutual
def uptoBulk {H : Type} : DataW H → Nat
  | .lit (.string bytes) => bytes.length + 1
  | .lit _ => 1
  | .nil => 1
  | .ptr d => uptoBulk d + 1
  | .slice elems spare => uptoBulkAll elems + uptoBulkAll spare + 1
  | .agg parts => uptoBulkAll parts + 1
  | .iface _ d => uptoBulk d + 1
  | .map entries => uptoBulkEntries entries + 1
  | .held _ => 1
def uptoBulkAll {H : Type} : List (DataW H) → Nat
  | [] => 0
  | d :: r => uptoBulk d + uptoBulkAll r
def uptoBulkEntries {H : Type} : List (Lit × DataW H) → Nat
  | [] => 0
  | x :: r => uptoBulkEntry x + uptoBulkEntries r
def uptoBulkEntry {H : Type} : Lit × DataW H → Nat
  | (.string bytes, d) => bytes.length + uptoBulk d + 1
  | (_, d) => uptoBulk d + 1
 end
def uptoSmall : (H : Type) → List (DataW H) → Bool := fun _ ds => decide (uptoBulkAll ds ≤ 1048576)
def OpenSpec.upto (s : _root_.Go.ChangeSpec) : _root_.Go.OpenSpec := { _root_.Go.OpenSpec.ofChange s with cond := some uptoSmall }

/-- 'radomelaw21.AuctionLeast', WHERE WHAT IT READS IS OF BULK AT MOST 1048576: true; the input reads as it did. -/
def auctionLeastUptoRow : OpenClaim := { program := "ytacbficpehmlnaa", sum := "523a110158be60e9788cc5e4c21e72d7d7f72815600fedc40b82c4a0cc0a8272", func := "radome/radomelaw21.AuctionLeast", spec := "auctionLeast", recurses := true, apart := false, narrowed := true }
def AuctionLeastUptoSaid : Prop := auctionLeastUptoRow.holds Try.pinned (OpenSpec.upto auctionLeastSpec)

/-- 'radomelaw21.AuctionGiven', WHERE WHAT IT READS IS OF BULK AT MOST 1048576: true; the input reads as it did. -/
def auctionGivenUptoRow : OpenClaim := { program := "ytacbficpehmlnaa", sum := "523a110158be60e9788cc5e4c21e72d7d7f72815600fedc40b82c4a0cc0a8272", func := "radome/radomelaw21.AuctionGiven", spec := "auctionGiven", apart := false, narrowed := true }
def AuctionGivenUptoSaid : Prop := auctionGivenUptoRow.holds Try.pinned (OpenSpec.upto auctionGivenSpec)

/-- 'radomelaw22.BestProved', WHERE WHAT IT READS IS OF BULK AT MOST 1048576: true; the input reads as it did. -/
def bestProvedUptoRow : OpenClaim := { program := "ytacbficpehmlnaa", sum := "523a110158be60e9788cc5e4c21e72d7d7f72815600fedc40b82c4a0cc0a8272", func := "radome/radomelaw22.BestProved", spec := "bestProved", unfollowed := true, recurses := true, apart := false, narrowed := true }
def BestProvedUptoSaid : Prop := bestProvedUptoRow.holds Try.pinned (OpenSpec.upto bestProvedSpec)

end Rows
end Go.Proofs.Ytacbficpehmlnaa
