/-
  No cell of these rows narrows 'for every input' (looked for: loops, veiled, ifaces, maps, wideKeys, modest, calm, conditions, laid).
  DERIVED. THE GIVEN ROWS OF THIS SEAT. 7 by the template 'for every input the law returns true; each argument reads behind the call as it read before'; 0 by the template 'total and deterministic' (their statements: YtafpmcmpkgbgaaaTotals.lean).
  GIVEN WITH THE SEED: the statements are not yours to turn. If you find one false, say at which input.
  Laid BY PROGRAM, IN A SANDBOX (cutbox-rows.mjs): the forced cells as the released guide's own fill.sh prints them over the translation 4796f9f81e0de9b3… (all of the seat's roots in one cut). By AI agents, Wed Nov 11 2026. No macro, syntax, notation, axiom, sorry.
-/
import Derived.Test.YtafpmcmpkgbgaaaChecked
import GoSem.Claim
import GoSem.ClaimJoined
import GoSem.ClaimMapViews
import Derived.JoinedTies
import Derived.KernelRfl
namespace Go.Proofs.Ytafpmcmpkgbgaaa
/- THE CELL 'sum', in the pinned program and in every row, IS THE sha256 OF THE DUMP (.gsa) THAT YtafpmcmpkgbgaaaProg.lean LOADS. Nothing in Lean hashes anything: it is a label: what it is worth is what the hold of that sum in a sandbox is worth. -/
noncomputable def Try.pinned : Pinned := { name := "ytafpmcmpkgbgaaa", sum := "4796f9f81e0de9b356010f104d3adf6e02cde75d5de8ff57d3a8b6b988359dfc", checked := Try.checked }
namespace Rows
def none {H : Type} : Left H := { results := [], args := [] }

/-- 'spoorlaw06.IvalClips': WHATEVER THE INPUT: true; the input reads as it did. -/
def ivalClipsSpec : ChangeSpec := { name := "ivalClips", fn := fun _ => fun
  | [d1, d2] => { results := [.lit (.bool true)], args := [d1, d2] }
  | _ => none }
def ivalClipsRow : OpenClaim := { program := "ytafpmcmpkgbgaaa", sum := "4796f9f81e0de9b356010f104d3adf6e02cde75d5de8ff57d3a8b6b988359dfc", func := "spoor/spoorlaw06.IvalClips", spec := "ivalClips", unfollowed := true, recurses := true, apart := false }
def IvalClipsSaid : Prop := ivalClipsRow.holds Try.pinned (OpenSpec.ofChange ivalClipsSpec)

/-- ITS FALSE NEIGHBOUR: 'it returns false'. Refute it at one input. -/
def ivalClipsWrong : ChangeSpec := { name := "ivalClips", fn := fun _ => fun
  | [d1, d2] => { results := [.lit (.bool false)], args := [d1, d2] }
  | _ => none }
def IvalClipsWrongFalsely : Prop := ivalClipsRow.holds Try.pinned (OpenSpec.ofChange ivalClipsWrong)

/-- 'spoorlaw06.IvalForm': WHATEVER THE INPUT: true; the input reads as it did. -/
def ivalFormSpec : ChangeSpec := { name := "ivalForm", fn := fun _ => fun
  | [d1, d2, d3] => { results := [.lit (.bool true)], args := [d1, d2, d3] }
  | _ => none }
def ivalFormRow : OpenClaim := { program := "ytafpmcmpkgbgaaa", sum := "4796f9f81e0de9b356010f104d3adf6e02cde75d5de8ff57d3a8b6b988359dfc", func := "spoor/spoorlaw06.IvalForm", spec := "ivalForm", unfollowed := true, recurses := true, apart := false }
def IvalFormSaid : Prop := ivalFormRow.holds Try.pinned (OpenSpec.ofChange ivalFormSpec)

/-- ITS FALSE NEIGHBOUR: 'it returns false'. Refute it at one input. -/
def ivalFormWrong : ChangeSpec := { name := "ivalForm", fn := fun _ => fun
  | [d1, d2, d3] => { results := [.lit (.bool false)], args := [d1, d2, d3] }
  | _ => none }
def IvalFormWrongFalsely : Prop := ivalFormRow.holds Try.pinned (OpenSpec.ofChange ivalFormWrong)

/-- 'spoorlaw06.IvalMemory': WHATEVER THE INPUT: true; the input reads as it did. -/
def ivalMemorySpec : ChangeSpec := { name := "ivalMemory", fn := fun _ => fun
  | [d1, d2] => { results := [.lit (.bool true)], args := [d1, d2] }
  | _ => none }
def ivalMemoryRow : OpenClaim := { program := "ytafpmcmpkgbgaaa", sum := "4796f9f81e0de9b356010f104d3adf6e02cde75d5de8ff57d3a8b6b988359dfc", func := "spoor/spoorlaw06.IvalMemory", spec := "ivalMemory", unfollowed := true, recurses := true, apart := false }
def IvalMemorySaid : Prop := ivalMemoryRow.holds Try.pinned (OpenSpec.ofChange ivalMemorySpec)

/-- ITS FALSE NEIGHBOUR: 'it returns false'. Refute it at one input. -/
def ivalMemoryWrong : ChangeSpec := { name := "ivalMemory", fn := fun _ => fun
  | [d1, d2] => { results := [.lit (.bool false)], args := [d1, d2] }
  | _ => none }
def IvalMemoryWrongFalsely : Prop := ivalMemoryRow.holds Try.pinned (OpenSpec.ofChange ivalMemoryWrong)

/-- 'spoorlaw06.IvalSums': WHATEVER THE INPUT: true; the input reads as it did. -/
def ivalSumsSpec : ChangeSpec := { name := "ivalSums", fn := fun _ => fun
  | [d1, d2] => { results := [.lit (.bool true)], args := [d1, d2] }
  | _ => none }
def ivalSumsRow : OpenClaim := { program := "ytafpmcmpkgbgaaa", sum := "4796f9f81e0de9b356010f104d3adf6e02cde75d5de8ff57d3a8b6b988359dfc", func := "spoor/spoorlaw06.IvalSums", spec := "ivalSums", unfollowed := true, recurses := true, apart := false }
def IvalSumsSaid : Prop := ivalSumsRow.holds Try.pinned (OpenSpec.ofChange ivalSumsSpec)

/-- ITS FALSE NEIGHBOUR: 'it returns false'. Refute it at one input. -/
def ivalSumsWrong : ChangeSpec := { name := "ivalSums", fn := fun _ => fun
  | [d1, d2] => { results := [.lit (.bool false)], args := [d1, d2] }
  | _ => none }
def IvalSumsWrongFalsely : Prop := ivalSumsRow.holds Try.pinned (OpenSpec.ofChange ivalSumsWrong)

/-- 'spoorlaw06.IvalCut': WHATEVER THE INPUT: true; the input reads as it did. -/
def ivalCutSpec : ChangeSpec := { name := "ivalCut", fn := fun _ => fun
  | [d1, d2] => { results := [.lit (.bool true)], args := [d1, d2] }
  | _ => none }
def ivalCutRow : OpenClaim := { program := "ytafpmcmpkgbgaaa", sum := "4796f9f81e0de9b356010f104d3adf6e02cde75d5de8ff57d3a8b6b988359dfc", func := "spoor/spoorlaw06.IvalCut", spec := "ivalCut", unfollowed := true, recurses := true, apart := false }
def IvalCutSaid : Prop := ivalCutRow.holds Try.pinned (OpenSpec.ofChange ivalCutSpec)

/-- ITS FALSE NEIGHBOUR: 'it returns false'. Refute it at one input. -/
def ivalCutWrong : ChangeSpec := { name := "ivalCut", fn := fun _ => fun
  | [d1, d2] => { results := [.lit (.bool false)], args := [d1, d2] }
  | _ => none }
def IvalCutWrongFalsely : Prop := ivalCutRow.holds Try.pinned (OpenSpec.ofChange ivalCutWrong)

/-- 'spoorlaw06.IvalMoments': WHATEVER THE INPUT: true; the input reads as it did. -/
def ivalMomentsSpec : ChangeSpec := { name := "ivalMoments", fn := fun _ => fun
  | [d1, d2, d3, d4] => { results := [.lit (.bool true)], args := [d1, d2, d3, d4] }
  | _ => none }
def ivalMomentsRow : OpenClaim := { program := "ytafpmcmpkgbgaaa", sum := "4796f9f81e0de9b356010f104d3adf6e02cde75d5de8ff57d3a8b6b988359dfc", func := "spoor/spoorlaw06.IvalMoments", spec := "ivalMoments", unfollowed := true, recurses := true, apart := false }
def IvalMomentsSaid : Prop := ivalMomentsRow.holds Try.pinned (OpenSpec.ofChange ivalMomentsSpec)

/-- ITS FALSE NEIGHBOUR: 'it returns false'. Refute it at one input. -/
def ivalMomentsWrong : ChangeSpec := { name := "ivalMoments", fn := fun _ => fun
  | [d1, d2, d3, d4] => { results := [.lit (.bool false)], args := [d1, d2, d3, d4] }
  | _ => none }
def IvalMomentsWrongFalsely : Prop := ivalMomentsRow.holds Try.pinned (OpenSpec.ofChange ivalMomentsWrong)

/-- 'spoorlaw06.IvalSets': WHATEVER THE INPUT: true; the input reads as it did. -/
def ivalSetsSpec : ChangeSpec := { name := "ivalSets", fn := fun _ => fun
  | [d1, d2, d3] => { results := [.lit (.bool true)], args := [d1, d2, d3] }
  | _ => none }
def ivalSetsRow : OpenClaim := { program := "ytafpmcmpkgbgaaa", sum := "4796f9f81e0de9b356010f104d3adf6e02cde75d5de8ff57d3a8b6b988359dfc", func := "spoor/spoorlaw06.IvalSets", spec := "ivalSets", unfollowed := true, recurses := true, apart := false }
def IvalSetsSaid : Prop := ivalSetsRow.holds Try.pinned (OpenSpec.ofChange ivalSetsSpec)

/-- ITS FALSE NEIGHBOUR: 'it returns false'. Refute it at one input. -/
def ivalSetsWrong : ChangeSpec := { name := "ivalSets", fn := fun _ => fun
  | [d1, d2, d3] => { results := [.lit (.bool false)], args := [d1, d2, d3] }
  | _ => none }
def IvalSetsWrongFalsely : Prop := ivalSetsRow.holds Try.pinned (OpenSpec.ofChange ivalSetsWrong)

/- THE SECOND FORM. 'bulk': how many values and letters a reading holds, each counted each time it is reached (what is shared counts as often as it is met; a slice's spare places count too). A statement '..UptoSaid' is the law's where the arguments, and the package variables that the reading takes, are together of bulk at most 1048576: NARROWER than '..Said'. Prove '..Said' where nothing that the law and all that it calls make is longer than what came in: it says more and counts as full. Else prove '..UptoSaid'. A law counts once. -/
mutual
def uptoBulk {H : Type} : DataW H → Nat
  | .lit (.string bytes) => bytes.length + 1
  | .lit _ => 1
  | .nil => 1
  | .ptr d => uptoBulk d + 1
  | .slice elems spare => uptoBulkAll elems + uptoBulkAll spare + 1
  | .agg parts => uptoBulkAll parts + 1
  | .iface _ d => uptoBulk d + 1
  | .map entries => uptoBulkEntries entries + 1
  | .held _ => 1
def uptoBulkAll {H : Type} : List (DataW H) → Nat
  | [] => 0
  | d :: r => uptoBulk d + uptoBulkAll r
def uptoBulkEntries {H : Type} : List (Lit × DataW H) → Nat
  | [] => 0
  | x :: r => uptoBulkEntry x + uptoBulkEntries r
def uptoBulkEntry {H : Type} : Lit × DataW H → Nat
  | (.string bytes, d) => bytes.length + uptoBulk d + 1
  | (_, d) => uptoBulk d + 1
 end
def uptoSmall : (H : Type) → List (DataW H) → Bool := fun _ ds => decide (uptoBulkAll ds ≤ 1048576)
def OpenSpec.upto (s : _root_.Go.ChangeSpec) : _root_.Go.OpenSpec := { _root_.Go.OpenSpec.ofChange s with cond := some uptoSmall }

/-- 'spoorlaw06.IvalClips', WHERE WHAT IT READS IS OF BULK AT MOST 1048576: true; the input reads as it did. -/
def ivalClipsUptoRow : OpenClaim := { program := "ytafpmcmpkgbgaaa", sum := "4796f9f81e0de9b356010f104d3adf6e02cde75d5de8ff57d3a8b6b988359dfc", func := "spoor/spoorlaw06.IvalClips", spec := "ivalClips", unfollowed := true, recurses := true, apart := false, narrowed := true }
def IvalClipsUptoSaid : Prop := ivalClipsUptoRow.holds Try.pinned (OpenSpec.upto ivalClipsSpec)

/-- 'spoorlaw06.IvalForm', WHERE WHAT IT READS IS OF BULK AT MOST 1048576: true; the input reads as it did. -/
def ivalFormUptoRow : OpenClaim := { program := "ytafpmcmpkgbgaaa", sum := "4796f9f81e0de9b356010f104d3adf6e02cde75d5de8ff57d3a8b6b988359dfc", func := "spoor/spoorlaw06.IvalForm", spec := "ivalForm", unfollowed := true, recurses := true, apart := false, narrowed := true }
def IvalFormUptoSaid : Prop := ivalFormUptoRow.holds Try.pinned (OpenSpec.upto ivalFormSpec)

/-- 'spoorlaw06.IvalMemory', WHERE WHAT IT READS IS OF BULK AT MOST 1048576: true; the input reads as it did. -/
def ivalMemoryUptoRow : OpenClaim := { program := "ytafpmcmpkgbgaaa", sum := "4796f9f81e0de9b356010f104d3adf6e02cde75d5de8ff57d3a8b6b988359dfc", func := "spoor/spoorlaw06.IvalMemory", spec := "ivalMemory", unfollowed := true, recurses := true, apart := false, narrowed := true }
def IvalMemoryUptoSaid : Prop := ivalMemoryUptoRow.holds Try.pinned (OpenSpec.upto ivalMemorySpec)

/-- 'spoorlaw06.IvalSums', WHERE WHAT IT READS IS OF BULK AT MOST 1048576: true; the input reads as it did. -/
def ivalSumsUptoRow : OpenClaim := { program := "ytafpmcmpkgbgaaa", sum := "4796f9f81e0de9b356010f104d3adf6e02cde75d5de8ff57d3a8b6b988359dfc", func := "spoor/spoorlaw06.IvalSums", spec := "ivalSums", unfollowed := true, recurses := true, apart := false, narrowed := true }
def IvalSumsUptoSaid : Prop := ivalSumsUptoRow.holds Try.pinned (OpenSpec.upto ivalSumsSpec)

/-- 'spoorlaw06.IvalCut', WHERE WHAT IT READS IS OF BULK AT MOST 1048576: true; the input reads as it did. -/
def ivalCutUptoRow : OpenClaim := { program := "ytafpmcmpkgbgaaa", sum := "4796f9f81e0de9b356010f104d3adf6e02cde75d5de8ff57d3a8b6b988359dfc", func := "spoor/spoorlaw06.IvalCut", spec := "ivalCut", unfollowed := true, recurses := true, apart := false, narrowed := true }
def IvalCutUptoSaid : Prop := ivalCutUptoRow.holds Try.pinned (OpenSpec.upto ivalCutSpec)

/-- 'spoorlaw06.IvalMoments', WHERE WHAT IT READS IS OF BULK AT MOST 1048576: true; the input reads as it did. -/
def ivalMomentsUptoRow : OpenClaim := { program := "ytafpmcmpkgbgaaa", sum := "4796f9f81e0de9b356010f104d3adf6e02cde75d5de8ff57d3a8b6b988359dfc", func := "spoor/spoorlaw06.IvalMoments", spec := "ivalMoments", unfollowed := true, recurses := true, apart := false, narrowed := true }
def IvalMomentsUptoSaid : Prop := ivalMomentsUptoRow.holds Try.pinned (OpenSpec.upto ivalMomentsSpec)

/-- 'spoorlaw06.IvalSets', WHERE WHAT IT READS IS OF BULK AT MOST 1048576: true; the input reads as it did. -/
def ivalSetsUptoRow : OpenClaim := { program := "ytafpmcmpkgbgaaa", sum := "4796f9f81e0de9b356010f104d3adf6e02cde75d5de8ff57d3a8b6b988359dfc", func := "spoor/spoorlaw06.IvalSets", spec := "ivalSets", unfollowed := true, recurses := true, apart := false, narrowed := true }
def IvalSetsUptoSaid : Prop := ivalSetsUptoRow.holds Try.pinned (OpenSpec.upto ivalSetsSpec)

end Rows
end Go.Proofs.Ytafpmcmpkgbgaaa
