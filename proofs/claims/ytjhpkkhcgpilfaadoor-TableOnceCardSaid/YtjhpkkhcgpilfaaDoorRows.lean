/-
  NARROWER THAN 'FOR EVERY INPUT', by the rows' own cells (each row's printed sentence says how): NamesGives: laid · NamesOnce: laid · CountRuns: laid · CountAll: laid · TableOnce: laid · TableRuns: laid.
  DERIVED. THE GIVEN ROWS OF THIS SEAT. 6 by the template 'for every input the law returns true; each argument reads behind the call as it read before'; 0 by the template 'total and deterministic' (their statements: YtjhpkkhcgpilfaaDoorTotals.lean).
  GIVEN WITH THE SEED: the statements are not yours to turn. If you find one false, say at which input.
  Laid BY PROGRAM, IN A SANDBOX (cutbox-rows.mjs): the forced cells as the released guide's own fill.sh prints them over the translation 9bba57ee135adc34… (all of the seat's roots in one cut). By AI agents, Wed Nov 11 2026. No macro, syntax, notation, axiom, sorry.
-/
import Derived.Test.YtjhpkkhcgpilfaaDoorChecked
import GoSem.Claim
import GoSem.ClaimJoined
import GoSem.ClaimMapViews
import Derived.JoinedTies
import Derived.KernelRfl
namespace Go.Proofs.YtjhpkkhcgpilfaaDoor
/- THE CELL 'sum', in the pinned program and in every row, IS THE sha256 OF THE DUMP (.gsa) THAT YtjhpkkhcgpilfaaDoorProg.lean LOADS. Nothing in Lean hashes anything: it is a label: what it is worth is what the hold of that sum in a sandbox is worth. -/
noncomputable def Tryd.pinned : Pinned := { name := "ytjhpkkhcgpilfaadoor", sum := "9bba57ee135adc34332a69a5207fa1f5a29493ec40a2262a26e99808a5f77d1f", checked := Tryd.checked }
namespace Rows
def none {H : Type} : Left H := { results := [], args := [] }

/- WHAT THE LISTED PACKAGE-LEVEL VARIABLES READ AS WHEN THE CALL BEGINS. Each datum BY PROGRAM (the guide's laid-datum.mjs) off the statement by which the dump's own 'gosem.cut.vars' lays the variable. In a bare row this is a premise. The card (YtjhpkkhcgpilfaaDoorCards.lean) ties it to the program's text. -/
def laid_errors_errorType {H : Type} : DataW H := .iface "internal/reflectlite.rtype" (.agg [.ptr (.lit (.string [101, 114, 114, 111, 114]))])

/-- 'radomelaw24.NamesGives': WHATEVER THE INPUT: true; the input reads as it did. -/
def namesGivesSpec : ChangeSpec := { name := "namesGives", fn := fun _ => fun
  | [d1, d2, d3] => { results := [.lit (.bool true)], args := [d1, d2, d3] }
  | _ => none }
def namesGivesRow : OpenClaim := { program := "ytjhpkkhcgpilfaadoor", sum := "9bba57ee135adc34332a69a5207fa1f5a29493ec40a2262a26e99808a5f77d1f", func := "radome/radomelaw24.NamesGives", spec := "namesGives", inPlace := ["sync/atomic.LoadInt64", "sync/atomic.CompareAndSwapInt64", "internal/reflectlite.ValueOf", "(internal/reflectlite.Value).Type", "(internal/reflectlite.Value).IsNil", "internal/reflectlite.TypeOf", "(internal/reflectlite.Value).Elem", "(internal/reflectlite.Value).Set"], unfollowed := true, recurses := true, named := ["errors.errorType"], apart := false, laid := [("errors.errorType", laid_errors_errorType)] }
def NamesGivesSaid : Prop := namesGivesRow.holds Tryd.pinned (OpenSpec.ofChange namesGivesSpec)

/-- ITS FALSE NEIGHBOUR: 'it returns false'. Refute it at one input. -/
def namesGivesWrong : ChangeSpec := { name := "namesGives", fn := fun _ => fun
  | [d1, d2, d3] => { results := [.lit (.bool false)], args := [d1, d2, d3] }
  | _ => none }
def NamesGivesWrongFalsely : Prop := namesGivesRow.holds Tryd.pinned (OpenSpec.ofChange namesGivesWrong)

/-- 'radomelaw24.NamesOnce': WHATEVER THE INPUT: true; the input reads as it did. -/
def namesOnceSpec : ChangeSpec := { name := "namesOnce", fn := fun _ => fun
  | [d1, d2] => { results := [.lit (.bool true)], args := [d1, d2] }
  | _ => none }
def namesOnceRow : OpenClaim := { program := "ytjhpkkhcgpilfaadoor", sum := "9bba57ee135adc34332a69a5207fa1f5a29493ec40a2262a26e99808a5f77d1f", func := "radome/radomelaw24.NamesOnce", spec := "namesOnce", inPlace := ["sync/atomic.LoadInt64", "sync/atomic.CompareAndSwapInt64", "internal/reflectlite.ValueOf", "(internal/reflectlite.Value).Type", "(internal/reflectlite.Value).IsNil", "internal/reflectlite.TypeOf", "(internal/reflectlite.Value).Elem", "(internal/reflectlite.Value).Set"], unfollowed := true, recurses := true, named := ["errors.errorType"], apart := false, laid := [("errors.errorType", laid_errors_errorType)] }
def NamesOnceSaid : Prop := namesOnceRow.holds Tryd.pinned (OpenSpec.ofChange namesOnceSpec)

/-- ITS FALSE NEIGHBOUR: 'it returns false'. Refute it at one input. -/
def namesOnceWrong : ChangeSpec := { name := "namesOnce", fn := fun _ => fun
  | [d1, d2] => { results := [.lit (.bool false)], args := [d1, d2] }
  | _ => none }
def NamesOnceWrongFalsely : Prop := namesOnceRow.holds Tryd.pinned (OpenSpec.ofChange namesOnceWrong)

/-- 'radomelaw32.CountRuns': WHATEVER THE INPUT: true; the input reads as it did. -/
def countRunsSpec : ChangeSpec := { name := "countRuns", fn := fun _ => fun
  | [d1, d2] => { results := [.lit (.bool true)], args := [d1, d2] }
  | _ => none }
def countRunsRow : OpenClaim := { program := "ytjhpkkhcgpilfaadoor", sum := "9bba57ee135adc34332a69a5207fa1f5a29493ec40a2262a26e99808a5f77d1f", func := "radome/radomelaw32.CountRuns", spec := "countRuns", inPlace := ["sync/atomic.LoadInt64", "sync/atomic.LoadUint32", "(*internal/sync.Mutex).Lock", "internal/race.Disable", "sync/atomic.CompareAndSwapInt32", "internal/race.Enable", "internal/race.Acquire", "(*internal/sync.Mutex).lockSlow", "internal/sync.runtime_canSpin", "internal/sync.runtime_doSpin", "internal/sync.throw", "internal/sync.runtime_nanotime", "internal/sync.runtime_SemacquireMutex", "sync/atomic.AddInt32", "(*internal/sync.Mutex).Unlock", "internal/race.ReleaseMerge", "(*internal/sync.Mutex).unlockSlow", "internal/sync.fatal", "internal/sync.runtime_Semrelease", "sync/atomic.StoreUint32", "sync/atomic.CompareAndSwapInt64", "internal/reflectlite.ValueOf", "(internal/reflectlite.Value).Type", "(internal/reflectlite.Value).IsNil", "internal/reflectlite.TypeOf", "(internal/reflectlite.Value).Elem", "(internal/reflectlite.Value).Set"], unfollowed := true, recurses := true, named := ["errors.errorType"], apart := false, laid := [("errors.errorType", laid_errors_errorType)] }
def CountRunsSaid : Prop := countRunsRow.holds Tryd.pinned (OpenSpec.ofChange countRunsSpec)

/-- ITS FALSE NEIGHBOUR: 'it returns false'. Refute it at one input. -/
def countRunsWrong : ChangeSpec := { name := "countRuns", fn := fun _ => fun
  | [d1, d2] => { results := [.lit (.bool false)], args := [d1, d2] }
  | _ => none }
def CountRunsWrongFalsely : Prop := countRunsRow.holds Tryd.pinned (OpenSpec.ofChange countRunsWrong)

/-- 'radomelaw32.CountAll': WHATEVER THE INPUT: true; the input reads as it did. -/
def countAllSpec : ChangeSpec := { name := "countAll", fn := fun _ => fun
  | [d] => { results := [.lit (.bool true)], args := [d] }
  | _ => none }
def countAllRow : OpenClaim := { program := "ytjhpkkhcgpilfaadoor", sum := "9bba57ee135adc34332a69a5207fa1f5a29493ec40a2262a26e99808a5f77d1f", func := "radome/radomelaw32.CountAll", spec := "countAll", inPlace := ["sync/atomic.LoadInt64", "sync/atomic.CompareAndSwapInt64", "internal/reflectlite.ValueOf", "(internal/reflectlite.Value).Type", "(internal/reflectlite.Value).IsNil", "internal/reflectlite.TypeOf", "(internal/reflectlite.Value).Elem", "(internal/reflectlite.Value).Set", "sync/atomic.LoadUint32", "(*internal/sync.Mutex).Lock", "internal/race.Disable", "sync/atomic.CompareAndSwapInt32", "internal/race.Enable", "internal/race.Acquire", "(*internal/sync.Mutex).lockSlow", "internal/sync.runtime_canSpin", "internal/sync.runtime_doSpin", "internal/sync.throw", "internal/sync.runtime_nanotime", "internal/sync.runtime_SemacquireMutex", "sync/atomic.AddInt32", "(*internal/sync.Mutex).Unlock", "internal/race.ReleaseMerge", "(*internal/sync.Mutex).unlockSlow", "internal/sync.fatal", "internal/sync.runtime_Semrelease", "sync/atomic.StoreUint32"], unfollowed := true, recurses := true, named := ["errors.errorType"], apart := false, laid := [("errors.errorType", laid_errors_errorType)] }
def CountAllSaid : Prop := countAllRow.holds Tryd.pinned (OpenSpec.ofChange countAllSpec)

/-- ITS FALSE NEIGHBOUR: 'it returns false'. Refute it at one input. -/
def countAllWrong : ChangeSpec := { name := "countAll", fn := fun _ => fun
  | [d] => { results := [.lit (.bool false)], args := [d] }
  | _ => none }
def CountAllWrongFalsely : Prop := countAllRow.holds Tryd.pinned (OpenSpec.ofChange countAllWrong)

/-- 'radomelaw25.TableOnce': WHATEVER THE INPUT: true; the input reads as it did. -/
def tableOnceSpec : ChangeSpec := { name := "tableOnce", fn := fun _ => fun
  | [d1, d2] => { results := [.lit (.bool true)], args := [d1, d2] }
  | _ => none }
def tableOnceRow : OpenClaim := { program := "ytjhpkkhcgpilfaadoor", sum := "9bba57ee135adc34332a69a5207fa1f5a29493ec40a2262a26e99808a5f77d1f", func := "radome/radomelaw25.TableOnce", spec := "tableOnce", inPlace := ["sync/atomic.LoadInt64", "sync/atomic.CompareAndSwapInt64", "internal/reflectlite.ValueOf", "(internal/reflectlite.Value).Type", "(internal/reflectlite.Value).IsNil", "internal/reflectlite.TypeOf", "(internal/reflectlite.Value).Elem", "(internal/reflectlite.Value).Set"], unfollowed := true, recurses := true, named := ["errors.errorType"], apart := false, laid := [("errors.errorType", laid_errors_errorType)] }
def TableOnceSaid : Prop := tableOnceRow.holds Tryd.pinned (OpenSpec.ofChange tableOnceSpec)

/-- ITS FALSE NEIGHBOUR: 'it returns false'. Refute it at one input. -/
def tableOnceWrong : ChangeSpec := { name := "tableOnce", fn := fun _ => fun
  | [d1, d2] => { results := [.lit (.bool false)], args := [d1, d2] }
  | _ => none }
def TableOnceWrongFalsely : Prop := tableOnceRow.holds Tryd.pinned (OpenSpec.ofChange tableOnceWrong)

/-- 'radomelaw25.TableRuns': WHATEVER THE INPUT: true; the input reads as it did. -/
def tableRunsSpec : ChangeSpec := { name := "tableRuns", fn := fun _ => fun
  | [d1, d2, d3] => { results := [.lit (.bool true)], args := [d1, d2, d3] }
  | _ => none }
def tableRunsRow : OpenClaim := { program := "ytjhpkkhcgpilfaadoor", sum := "9bba57ee135adc34332a69a5207fa1f5a29493ec40a2262a26e99808a5f77d1f", func := "radome/radomelaw25.TableRuns", spec := "tableRuns", inPlace := ["sync/atomic.LoadInt64", "sync/atomic.CompareAndSwapInt64", "internal/reflectlite.ValueOf", "(internal/reflectlite.Value).Type", "(internal/reflectlite.Value).IsNil", "internal/reflectlite.TypeOf", "(internal/reflectlite.Value).Elem", "(internal/reflectlite.Value).Set"], unfollowed := true, recurses := true, named := ["errors.errorType"], apart := false, laid := [("errors.errorType", laid_errors_errorType)] }
def TableRunsSaid : Prop := tableRunsRow.holds Tryd.pinned (OpenSpec.ofChange tableRunsSpec)

/-- ITS FALSE NEIGHBOUR: 'it returns false'. Refute it at one input. -/
def tableRunsWrong : ChangeSpec := { name := "tableRuns", fn := fun _ => fun
  | [d1, d2, d3] => { results := [.lit (.bool false)], args := [d1, d2, d3] }
  | _ => none }
def TableRunsWrongFalsely : Prop := tableRunsRow.holds Tryd.pinned (OpenSpec.ofChange tableRunsWrong)

/- THE SECOND FORM. 'bulk': how many values and letters a reading holds, each counted each time it is reached (what is shared counts as often as it is met; a slice's spare places count too). A statement '..UptoSaid' is the law's where the arguments, and the package variables that the reading takes, are together of bulk at most 1048576: NARROWER than '..Said'. Prove '..Said' where nothing that the law and all that it calls make is longer than what came in: it says more and counts as full. Else prove '..UptoSaid'. A law counts once. -/
mutual
def uptoBulk {H : Type} : DataW H → Nat
  | .lit (.string bytes) => bytes.length + 1
  | .lit _ => 1
  | .nil => 1
  | .ptr d => uptoBulk d + 1
  | .slice elems spare => uptoBulkAll elems + uptoBulkAll spare + 1
  | .agg parts => uptoBulkAll parts + 1
  | .iface _ d => uptoBulk d + 1
  | .map entries => uptoBulkEntries entries + 1
  | .held _ => 1
def uptoBulkAll {H : Type} : List (DataW H) → Nat
  | [] => 0
  | d :: r => uptoBulk d + uptoBulkAll r
def uptoBulkEntries {H : Type} : List (Lit × DataW H) → Nat
  | [] => 0
  | x :: r => uptoBulkEntry x + uptoBulkEntries r
def uptoBulkEntry {H : Type} : Lit × DataW H → Nat
  | (.string bytes, d) => bytes.length + uptoBulk d + 1
  | (_, d) => uptoBulk d + 1
 end
def uptoSmall : (H : Type) → List (DataW H) → Bool := fun _ ds => decide (uptoBulkAll ds ≤ 1048576)
def OpenSpec.upto (s : _root_.Go.ChangeSpec) : _root_.Go.OpenSpec := { _root_.Go.OpenSpec.ofChange s with cond := some uptoSmall }

/-- 'radomelaw24.NamesGives', WHERE WHAT IT READS IS OF BULK AT MOST 1048576: true; the input reads as it did. -/
def namesGivesUptoRow : OpenClaim := { program := "ytjhpkkhcgpilfaadoor", sum := "9bba57ee135adc34332a69a5207fa1f5a29493ec40a2262a26e99808a5f77d1f", func := "radome/radomelaw24.NamesGives", spec := "namesGives", inPlace := ["sync/atomic.LoadInt64", "sync/atomic.CompareAndSwapInt64", "internal/reflectlite.ValueOf", "(internal/reflectlite.Value).Type", "(internal/reflectlite.Value).IsNil", "internal/reflectlite.TypeOf", "(internal/reflectlite.Value).Elem", "(internal/reflectlite.Value).Set"], unfollowed := true, recurses := true, named := ["errors.errorType"], apart := false, laid := [("errors.errorType", laid_errors_errorType)], narrowed := true }
def NamesGivesUptoSaid : Prop := namesGivesUptoRow.holds Tryd.pinned (OpenSpec.upto namesGivesSpec)

/-- 'radomelaw24.NamesOnce', WHERE WHAT IT READS IS OF BULK AT MOST 1048576: true; the input reads as it did. -/
def namesOnceUptoRow : OpenClaim := { program := "ytjhpkkhcgpilfaadoor", sum := "9bba57ee135adc34332a69a5207fa1f5a29493ec40a2262a26e99808a5f77d1f", func := "radome/radomelaw24.NamesOnce", spec := "namesOnce", inPlace := ["sync/atomic.LoadInt64", "sync/atomic.CompareAndSwapInt64", "internal/reflectlite.ValueOf", "(internal/reflectlite.Value).Type", "(internal/reflectlite.Value).IsNil", "internal/reflectlite.TypeOf", "(internal/reflectlite.Value).Elem", "(internal/reflectlite.Value).Set"], unfollowed := true, recurses := true, named := ["errors.errorType"], apart := false, laid := [("errors.errorType", laid_errors_errorType)], narrowed := true }
def NamesOnceUptoSaid : Prop := namesOnceUptoRow.holds Tryd.pinned (OpenSpec.upto namesOnceSpec)

/-- 'radomelaw32.CountRuns', WHERE WHAT IT READS IS OF BULK AT MOST 1048576: true; the input reads as it did. -/
def countRunsUptoRow : OpenClaim := { program := "ytjhpkkhcgpilfaadoor", sum := "9bba57ee135adc34332a69a5207fa1f5a29493ec40a2262a26e99808a5f77d1f", func := "radome/radomelaw32.CountRuns", spec := "countRuns", inPlace := ["sync/atomic.LoadInt64", "sync/atomic.LoadUint32", "(*internal/sync.Mutex).Lock", "internal/race.Disable", "sync/atomic.CompareAndSwapInt32", "internal/race.Enable", "internal/race.Acquire", "(*internal/sync.Mutex).lockSlow", "internal/sync.runtime_canSpin", "internal/sync.runtime_doSpin", "internal/sync.throw", "internal/sync.runtime_nanotime", "internal/sync.runtime_SemacquireMutex", "sync/atomic.AddInt32", "(*internal/sync.Mutex).Unlock", "internal/race.ReleaseMerge", "(*internal/sync.Mutex).unlockSlow", "internal/sync.fatal", "internal/sync.runtime_Semrelease", "sync/atomic.StoreUint32", "sync/atomic.CompareAndSwapInt64", "internal/reflectlite.ValueOf", "(internal/reflectlite.Value).Type", "(internal/reflectlite.Value).IsNil", "internal/reflectlite.TypeOf", "(internal/reflectlite.Value).Elem", "(internal/reflectlite.Value).Set"], unfollowed := true, recurses := true, named := ["errors.errorType"], apart := false, laid := [("errors.errorType", laid_errors_errorType)], narrowed := true }
def CountRunsUptoSaid : Prop := countRunsUptoRow.holds Tryd.pinned (OpenSpec.upto countRunsSpec)

/-- 'radomelaw32.CountAll', WHERE WHAT IT READS IS OF BULK AT MOST 1048576: true; the input reads as it did. -/
def countAllUptoRow : OpenClaim := { program := "ytjhpkkhcgpilfaadoor", sum := "9bba57ee135adc34332a69a5207fa1f5a29493ec40a2262a26e99808a5f77d1f", func := "radome/radomelaw32.CountAll", spec := "countAll", inPlace := ["sync/atomic.LoadInt64", "sync/atomic.CompareAndSwapInt64", "internal/reflectlite.ValueOf", "(internal/reflectlite.Value).Type", "(internal/reflectlite.Value).IsNil", "internal/reflectlite.TypeOf", "(internal/reflectlite.Value).Elem", "(internal/reflectlite.Value).Set", "sync/atomic.LoadUint32", "(*internal/sync.Mutex).Lock", "internal/race.Disable", "sync/atomic.CompareAndSwapInt32", "internal/race.Enable", "internal/race.Acquire", "(*internal/sync.Mutex).lockSlow", "internal/sync.runtime_canSpin", "internal/sync.runtime_doSpin", "internal/sync.throw", "internal/sync.runtime_nanotime", "internal/sync.runtime_SemacquireMutex", "sync/atomic.AddInt32", "(*internal/sync.Mutex).Unlock", "internal/race.ReleaseMerge", "(*internal/sync.Mutex).unlockSlow", "internal/sync.fatal", "internal/sync.runtime_Semrelease", "sync/atomic.StoreUint32"], unfollowed := true, recurses := true, named := ["errors.errorType"], apart := false, laid := [("errors.errorType", laid_errors_errorType)], narrowed := true }
def CountAllUptoSaid : Prop := countAllUptoRow.holds Tryd.pinned (OpenSpec.upto countAllSpec)

/-- 'radomelaw25.TableOnce', WHERE WHAT IT READS IS OF BULK AT MOST 1048576: true; the input reads as it did. -/
def tableOnceUptoRow : OpenClaim := { program := "ytjhpkkhcgpilfaadoor", sum := "9bba57ee135adc34332a69a5207fa1f5a29493ec40a2262a26e99808a5f77d1f", func := "radome/radomelaw25.TableOnce", spec := "tableOnce", inPlace := ["sync/atomic.LoadInt64", "sync/atomic.CompareAndSwapInt64", "internal/reflectlite.ValueOf", "(internal/reflectlite.Value).Type", "(internal/reflectlite.Value).IsNil", "internal/reflectlite.TypeOf", "(internal/reflectlite.Value).Elem", "(internal/reflectlite.Value).Set"], unfollowed := true, recurses := true, named := ["errors.errorType"], apart := false, laid := [("errors.errorType", laid_errors_errorType)], narrowed := true }
def TableOnceUptoSaid : Prop := tableOnceUptoRow.holds Tryd.pinned (OpenSpec.upto tableOnceSpec)

/-- 'radomelaw25.TableRuns', WHERE WHAT IT READS IS OF BULK AT MOST 1048576: true; the input reads as it did. -/
def tableRunsUptoRow : OpenClaim := { program := "ytjhpkkhcgpilfaadoor", sum := "9bba57ee135adc34332a69a5207fa1f5a29493ec40a2262a26e99808a5f77d1f", func := "radome/radomelaw25.TableRuns", spec := "tableRuns", inPlace := ["sync/atomic.LoadInt64", "sync/atomic.CompareAndSwapInt64", "internal/reflectlite.ValueOf", "(internal/reflectlite.Value).Type", "(internal/reflectlite.Value).IsNil", "internal/reflectlite.TypeOf", "(internal/reflectlite.Value).Elem", "(internal/reflectlite.Value).Set"], unfollowed := true, recurses := true, named := ["errors.errorType"], apart := false, laid := [("errors.errorType", laid_errors_errorType)], narrowed := true }
def TableRunsUptoSaid : Prop := tableRunsUptoRow.holds Tryd.pinned (OpenSpec.upto tableRunsSpec)

end Rows
end Go.Proofs.YtjhpkkhcgpilfaaDoor
