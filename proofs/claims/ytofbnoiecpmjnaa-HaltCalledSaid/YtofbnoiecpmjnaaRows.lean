/-
  NARROWER THAN 'FOR EVERY INPUT', by the rows' own cells (each row's printed sentence says how): HaltPlays: loops.
  DERIVED. THE GIVEN ROWS OF THIS SEAT. 5 by the template 'for every input the law returns true; each argument reads behind the call as it read before'; 0 by the template 'total and deterministic' (their statements: YtofbnoiecpmjnaaTotals.lean).
  GIVEN WITH THE SEED: the statements are not yours to turn. If you find one false, say at which input.
  Laid BY PROGRAM, IN A SANDBOX (cutbox-rows.mjs): the forced cells as the released guide's own fill.sh prints them over the translation 3d049b098260e8bd… (all of the seat's roots in one cut). By AI agents, Wed Nov 11 2026. No macro, syntax, notation, axiom, sorry.
-/
import Derived.Test.YtofbnoiecpmjnaaChecked
import GoSem.Claim
import GoSem.ClaimJoined
import GoSem.ClaimMapViews
import Derived.JoinedTies
import Derived.KernelRfl
namespace Go.Proofs.Ytofbnoiecpmjnaa
/- THE CELL 'sum', in the pinned program and in every row, IS THE sha256 OF THE DUMP (.gsa) THAT YtofbnoiecpmjnaaProg.lean LOADS. Nothing in Lean hashes anything: it is a label: what it is worth is what the hold of that sum in a sandbox is worth. -/
noncomputable def Try.pinned : Pinned := { name := "ytofbnoiecpmjnaa", sum := "3d049b098260e8bd05481851957748582c7d6654e80b8a4e427385e1013dad16", checked := Try.checked }
namespace Rows
def none {H : Type} : Left H := { results := [], args := [] }

/-- 'spoorlaw03.HaltNames': WHATEVER THE INPUT: true; the input reads as it did. -/
def haltNamesSpec : ChangeSpec := { name := "haltNames", fn := fun _ => fun
  | [] => { results := [.lit (.bool true)], args := [] }
  | _ => none }
def haltNamesRow : OpenClaim := { program := "ytofbnoiecpmjnaa", sum := "3d049b098260e8bd05481851957748582c7d6654e80b8a4e427385e1013dad16", func := "spoor/spoorlaw03.HaltNames", spec := "haltNames", inPlace := ["(*internal/sync.Mutex).Lock", "internal/race.Disable", "sync/atomic.CompareAndSwapInt32", "internal/race.Enable", "internal/race.Acquire", "(*internal/sync.Mutex).lockSlow", "internal/sync.runtime_canSpin", "internal/sync.runtime_doSpin", "internal/sync.throw", "internal/sync.runtime_nanotime", "internal/sync.runtime_SemacquireMutex", "sync/atomic.AddInt32", "(*internal/sync.Mutex).Unlock", "internal/race.ReleaseMerge", "(*internal/sync.Mutex).unlockSlow", "internal/sync.fatal", "internal/sync.runtime_Semrelease"], unfollowed := true, recurses := true, apart := false }
def HaltNamesSaid : Prop := haltNamesRow.holds Try.pinned (OpenSpec.ofChange haltNamesSpec)

/-- ITS FALSE NEIGHBOUR: 'it returns false'. Refute it at one input. -/
def haltNamesWrong : ChangeSpec := { name := "haltNames", fn := fun _ => fun
  | [] => { results := [.lit (.bool false)], args := [] }
  | _ => none }
def HaltNamesWrongFalsely : Prop := haltNamesRow.holds Try.pinned (OpenSpec.ofChange haltNamesWrong)

/-- 'spoorlaw03.HaltBudget': WHATEVER THE INPUT: true; the input reads as it did. -/
def haltBudgetSpec : ChangeSpec := { name := "haltBudget", fn := fun _ => fun
  | [d1, d2, d3] => { results := [.lit (.bool true)], args := [d1, d2, d3] }
  | _ => none }
def haltBudgetRow : OpenClaim := { program := "ytofbnoiecpmjnaa", sum := "3d049b098260e8bd05481851957748582c7d6654e80b8a4e427385e1013dad16", func := "spoor/spoorlaw03.HaltBudget", spec := "haltBudget", inPlace := ["(*internal/sync.Mutex).Lock", "internal/race.Disable", "sync/atomic.CompareAndSwapInt32", "internal/race.Enable", "internal/race.Acquire", "(*internal/sync.Mutex).lockSlow", "internal/sync.runtime_canSpin", "internal/sync.runtime_doSpin", "internal/sync.throw", "internal/sync.runtime_nanotime", "internal/sync.runtime_SemacquireMutex", "sync/atomic.AddInt32", "(*internal/sync.Mutex).Unlock", "internal/race.ReleaseMerge", "(*internal/sync.Mutex).unlockSlow", "internal/sync.fatal", "internal/sync.runtime_Semrelease"], unfollowed := true, recurses := true, apart := false }
def HaltBudgetSaid : Prop := haltBudgetRow.holds Try.pinned (OpenSpec.ofChange haltBudgetSpec)

/-- ITS FALSE NEIGHBOUR: 'it returns false'. Refute it at one input. -/
def haltBudgetWrong : ChangeSpec := { name := "haltBudget", fn := fun _ => fun
  | [d1, d2, d3] => { results := [.lit (.bool false)], args := [d1, d2, d3] }
  | _ => none }
def HaltBudgetWrongFalsely : Prop := haltBudgetRow.holds Try.pinned (OpenSpec.ofChange haltBudgetWrong)

/-- 'spoorlaw03.HaltTree': WHATEVER THE INPUT: true; the input reads as it did. -/
def haltTreeSpec : ChangeSpec := { name := "haltTree", fn := fun _ => fun
  | [d1, d2, d3] => { results := [.lit (.bool true)], args := [d1, d2, d3] }
  | _ => none }
def haltTreeRow : OpenClaim := { program := "ytofbnoiecpmjnaa", sum := "3d049b098260e8bd05481851957748582c7d6654e80b8a4e427385e1013dad16", func := "spoor/spoorlaw03.HaltTree", spec := "haltTree", inPlace := ["(*internal/sync.Mutex).Lock", "internal/race.Disable", "sync/atomic.CompareAndSwapInt32", "internal/race.Enable", "internal/race.Acquire", "(*internal/sync.Mutex).lockSlow", "internal/sync.runtime_canSpin", "internal/sync.runtime_doSpin", "internal/sync.throw", "internal/sync.runtime_nanotime", "internal/sync.runtime_SemacquireMutex", "sync/atomic.AddInt32", "(*internal/sync.Mutex).Unlock", "internal/race.ReleaseMerge", "(*internal/sync.Mutex).unlockSlow", "internal/sync.fatal", "internal/sync.runtime_Semrelease"], unfollowed := true, recurses := true, apart := false }
def HaltTreeSaid : Prop := haltTreeRow.holds Try.pinned (OpenSpec.ofChange haltTreeSpec)

/-- ITS FALSE NEIGHBOUR: 'it returns false'. Refute it at one input. -/
def haltTreeWrong : ChangeSpec := { name := "haltTree", fn := fun _ => fun
  | [d1, d2, d3] => { results := [.lit (.bool false)], args := [d1, d2, d3] }
  | _ => none }
def HaltTreeWrongFalsely : Prop := haltTreeRow.holds Try.pinned (OpenSpec.ofChange haltTreeWrong)

/-- 'spoorlaw03.HaltPlays': WHATEVER THE INPUT: true; the input reads as it did. -/
def haltPlaysSpec : ChangeSpec := { name := "haltPlays", fn := fun _ => fun
  | [d] => { results := [.lit (.bool true)], args := [d] }
  | _ => none }
def haltPlaysRow : OpenClaim := { program := "ytofbnoiecpmjnaa", sum := "3d049b098260e8bd05481851957748582c7d6654e80b8a4e427385e1013dad16", func := "spoor/spoorlaw03.HaltPlays", spec := "haltPlays", inPlace := ["(*internal/sync.Mutex).Lock", "internal/race.Disable", "sync/atomic.CompareAndSwapInt32", "internal/race.Enable", "internal/race.Acquire", "(*internal/sync.Mutex).lockSlow", "internal/sync.runtime_canSpin", "internal/sync.runtime_doSpin", "internal/sync.throw", "internal/sync.runtime_nanotime", "internal/sync.runtime_SemacquireMutex", "sync/atomic.AddInt32", "(*internal/sync.Mutex).Unlock", "internal/race.ReleaseMerge", "(*internal/sync.Mutex).unlockSlow", "internal/sync.fatal", "internal/sync.runtime_Semrelease"], unfollowed := true, recurses := true, loops := true, apart := false }
def HaltPlaysSaid : Prop := haltPlaysRow.holds Try.pinned (OpenSpec.ofChange haltPlaysSpec)

/-- ITS FALSE NEIGHBOUR: 'it returns false'. Refute it at one input. -/
def haltPlaysWrong : ChangeSpec := { name := "haltPlays", fn := fun _ => fun
  | [d] => { results := [.lit (.bool false)], args := [d] }
  | _ => none }
def HaltPlaysWrongFalsely : Prop := haltPlaysRow.holds Try.pinned (OpenSpec.ofChange haltPlaysWrong)

/-- 'spoorlaw03.HaltCalled': WHATEVER THE INPUT: true; the input reads as it did. -/
def haltCalledSpec : ChangeSpec := { name := "haltCalled", fn := fun _ => fun
  | [d1, d2, d3, d4] => { results := [.lit (.bool true)], args := [d1, d2, d3, d4] }
  | _ => none }
def haltCalledRow : OpenClaim := { program := "ytofbnoiecpmjnaa", sum := "3d049b098260e8bd05481851957748582c7d6654e80b8a4e427385e1013dad16", func := "spoor/spoorlaw03.HaltCalled", spec := "haltCalled", inPlace := ["(*internal/sync.Mutex).Lock", "internal/race.Disable", "sync/atomic.CompareAndSwapInt32", "internal/race.Enable", "internal/race.Acquire", "(*internal/sync.Mutex).lockSlow", "internal/sync.runtime_canSpin", "internal/sync.runtime_doSpin", "internal/sync.throw", "internal/sync.runtime_nanotime", "internal/sync.runtime_SemacquireMutex", "sync/atomic.AddInt32", "(*internal/sync.Mutex).Unlock", "internal/race.ReleaseMerge", "(*internal/sync.Mutex).unlockSlow", "internal/sync.fatal", "internal/sync.runtime_Semrelease"], unfollowed := true, recurses := true, apart := false }
def HaltCalledSaid : Prop := haltCalledRow.holds Try.pinned (OpenSpec.ofChange haltCalledSpec)

/-- ITS FALSE NEIGHBOUR: 'it returns false'. Refute it at one input. -/
def haltCalledWrong : ChangeSpec := { name := "haltCalled", fn := fun _ => fun
  | [d1, d2, d3, d4] => { results := [.lit (.bool false)], args := [d1, d2, d3, d4] }
  | _ => none }
def HaltCalledWrongFalsely : Prop := haltCalledRow.holds Try.pinned (OpenSpec.ofChange haltCalledWrong)

/- THE SECOND FORM. 'bulk': how many values and letters a reading holds, each counted each time it is reached (what is shared counts as often as it is met; a slice's spare places count too). A statement '..UptoSaid' is the law's where the arguments, and the package variables that the reading takes, are together of bulk at most 1048576: NARROWER than '..Said'. Prove '..Said' where nothing that the law and all that it calls make is longer than what came in: it says more and counts as full. Else prove '..UptoSaid'. A law counts once. -/
mutual
def uptoBulk {H : Type} : DataW H → Nat
  | .lit (.string bytes) => bytes.length + 1
  | .lit _ => 1
  | .nil => 1
  | .ptr d => uptoBulk d + 1
  | .slice elems spare => uptoBulkAll elems + uptoBulkAll spare + 1
  | .agg parts => uptoBulkAll parts + 1
  | .iface _ d => uptoBulk d + 1
  | .map entries => uptoBulkEntries entries + 1
  | .held _ => 1
def uptoBulkAll {H : Type} : List (DataW H) → Nat
  | [] => 0
  | d :: r => uptoBulk d + uptoBulkAll r
def uptoBulkEntries {H : Type} : List (Lit × DataW H) → Nat
  | [] => 0
  | x :: r => uptoBulkEntry x + uptoBulkEntries r
def uptoBulkEntry {H : Type} : Lit × DataW H → Nat
  | (.string bytes, d) => bytes.length + uptoBulk d + 1
  | (_, d) => uptoBulk d + 1
 end
def uptoSmall : (H : Type) → List (DataW H) → Bool := fun _ ds => decide (uptoBulkAll ds ≤ 1048576)
def OpenSpec.upto (s : _root_.Go.ChangeSpec) : _root_.Go.OpenSpec := { _root_.Go.OpenSpec.ofChange s with cond := some uptoSmall }

/-- 'spoorlaw03.HaltNames', WHERE WHAT IT READS IS OF BULK AT MOST 1048576: true; the input reads as it did. -/
def haltNamesUptoRow : OpenClaim := { program := "ytofbnoiecpmjnaa", sum := "3d049b098260e8bd05481851957748582c7d6654e80b8a4e427385e1013dad16", func := "spoor/spoorlaw03.HaltNames", spec := "haltNames", inPlace := ["(*internal/sync.Mutex).Lock", "internal/race.Disable", "sync/atomic.CompareAndSwapInt32", "internal/race.Enable", "internal/race.Acquire", "(*internal/sync.Mutex).lockSlow", "internal/sync.runtime_canSpin", "internal/sync.runtime_doSpin", "internal/sync.throw", "internal/sync.runtime_nanotime", "internal/sync.runtime_SemacquireMutex", "sync/atomic.AddInt32", "(*internal/sync.Mutex).Unlock", "internal/race.ReleaseMerge", "(*internal/sync.Mutex).unlockSlow", "internal/sync.fatal", "internal/sync.runtime_Semrelease"], unfollowed := true, recurses := true, apart := false, narrowed := true }
def HaltNamesUptoSaid : Prop := haltNamesUptoRow.holds Try.pinned (OpenSpec.upto haltNamesSpec)

/-- 'spoorlaw03.HaltBudget', WHERE WHAT IT READS IS OF BULK AT MOST 1048576: true; the input reads as it did. -/
def haltBudgetUptoRow : OpenClaim := { program := "ytofbnoiecpmjnaa", sum := "3d049b098260e8bd05481851957748582c7d6654e80b8a4e427385e1013dad16", func := "spoor/spoorlaw03.HaltBudget", spec := "haltBudget", inPlace := ["(*internal/sync.Mutex).Lock", "internal/race.Disable", "sync/atomic.CompareAndSwapInt32", "internal/race.Enable", "internal/race.Acquire", "(*internal/sync.Mutex).lockSlow", "internal/sync.runtime_canSpin", "internal/sync.runtime_doSpin", "internal/sync.throw", "internal/sync.runtime_nanotime", "internal/sync.runtime_SemacquireMutex", "sync/atomic.AddInt32", "(*internal/sync.Mutex).Unlock", "internal/race.ReleaseMerge", "(*internal/sync.Mutex).unlockSlow", "internal/sync.fatal", "internal/sync.runtime_Semrelease"], unfollowed := true, recurses := true, apart := false, narrowed := true }
def HaltBudgetUptoSaid : Prop := haltBudgetUptoRow.holds Try.pinned (OpenSpec.upto haltBudgetSpec)

/-- 'spoorlaw03.HaltTree', WHERE WHAT IT READS IS OF BULK AT MOST 1048576: true; the input reads as it did. -/
def haltTreeUptoRow : OpenClaim := { program := "ytofbnoiecpmjnaa", sum := "3d049b098260e8bd05481851957748582c7d6654e80b8a4e427385e1013dad16", func := "spoor/spoorlaw03.HaltTree", spec := "haltTree", inPlace := ["(*internal/sync.Mutex).Lock", "internal/race.Disable", "sync/atomic.CompareAndSwapInt32", "internal/race.Enable", "internal/race.Acquire", "(*internal/sync.Mutex).lockSlow", "internal/sync.runtime_canSpin", "internal/sync.runtime_doSpin", "internal/sync.throw", "internal/sync.runtime_nanotime", "internal/sync.runtime_SemacquireMutex", "sync/atomic.AddInt32", "(*internal/sync.Mutex).Unlock", "internal/race.ReleaseMerge", "(*internal/sync.Mutex).unlockSlow", "internal/sync.fatal", "internal/sync.runtime_Semrelease"], unfollowed := true, recurses := true, apart := false, narrowed := true }
def HaltTreeUptoSaid : Prop := haltTreeUptoRow.holds Try.pinned (OpenSpec.upto haltTreeSpec)

/-- 'spoorlaw03.HaltPlays', WHERE WHAT IT READS IS OF BULK AT MOST 1048576: true; the input reads as it did. -/
def haltPlaysUptoRow : OpenClaim := { program := "ytofbnoiecpmjnaa", sum := "3d049b098260e8bd05481851957748582c7d6654e80b8a4e427385e1013dad16", func := "spoor/spoorlaw03.HaltPlays", spec := "haltPlays", inPlace := ["(*internal/sync.Mutex).Lock", "internal/race.Disable", "sync/atomic.CompareAndSwapInt32", "internal/race.Enable", "internal/race.Acquire", "(*internal/sync.Mutex).lockSlow", "internal/sync.runtime_canSpin", "internal/sync.runtime_doSpin", "internal/sync.throw", "internal/sync.runtime_nanotime", "internal/sync.runtime_SemacquireMutex", "sync/atomic.AddInt32", "(*internal/sync.Mutex).Unlock", "internal/race.ReleaseMerge", "(*internal/sync.Mutex).unlockSlow", "internal/sync.fatal", "internal/sync.runtime_Semrelease"], unfollowed := true, recurses := true, loops := true, apart := false, narrowed := true }
def HaltPlaysUptoSaid : Prop := haltPlaysUptoRow.holds Try.pinned (OpenSpec.upto haltPlaysSpec)

/-- 'spoorlaw03.HaltCalled', WHERE WHAT IT READS IS OF BULK AT MOST 1048576: true; the input reads as it did. -/
def haltCalledUptoRow : OpenClaim := { program := "ytofbnoiecpmjnaa", sum := "3d049b098260e8bd05481851957748582c7d6654e80b8a4e427385e1013dad16", func := "spoor/spoorlaw03.HaltCalled", spec := "haltCalled", inPlace := ["(*internal/sync.Mutex).Lock", "internal/race.Disable", "sync/atomic.CompareAndSwapInt32", "internal/race.Enable", "internal/race.Acquire", "(*internal/sync.Mutex).lockSlow", "internal/sync.runtime_canSpin", "internal/sync.runtime_doSpin", "internal/sync.throw", "internal/sync.runtime_nanotime", "internal/sync.runtime_SemacquireMutex", "sync/atomic.AddInt32", "(*internal/sync.Mutex).Unlock", "internal/race.ReleaseMerge", "(*internal/sync.Mutex).unlockSlow", "internal/sync.fatal", "internal/sync.runtime_Semrelease"], unfollowed := true, recurses := true, apart := false, narrowed := true }
def HaltCalledUptoSaid : Prop := haltCalledUptoRow.holds Try.pinned (OpenSpec.upto haltCalledSpec)

end Rows
end Go.Proofs.Ytofbnoiecpmjnaa
