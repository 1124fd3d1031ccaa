/-
  No cell of these rows narrows 'for every input' (looked for: loops, veiled, ifaces, maps, wideKeys, modest, calm, conditions, laid).
  DERIVED. THE GIVEN ROWS OF THIS SEAT. 6 by the template 'for every input the law returns true; each argument reads behind the call as it read before'; 0 by the template 'total and deterministic' (their statements: YtlnhpccapadpmaaTotals.lean).
  GIVEN WITH THE SEED: the statements are not yours to turn. If you find one false, say at which input.
  Laid BY PROGRAM, IN A SANDBOX (cutbox-rows.mjs): the forced cells as the released guide's own fill.sh prints them over the translation a8b62c69875ddeaf… (all of the seat's roots in one cut). By AI agents, Wed Nov 11 2026. No macro, syntax, notation, axiom, sorry.
-/
import Derived.Test.YtlnhpccapadpmaaChecked
import GoSem.Claim
import GoSem.ClaimJoined
import GoSem.ClaimMapViews
import Derived.JoinedTies
import Derived.KernelRfl
namespace Go.Proofs.Ytlnhpccapadpmaa
/- THE CELL 'sum', in the pinned program and in every row, IS THE sha256 OF THE DUMP (.gsa) THAT YtlnhpccapadpmaaProg.lean LOADS. Nothing in Lean hashes anything: it is a label: what it is worth is what the hold of that sum in a sandbox is worth. -/
noncomputable def Try.pinned : Pinned := { name := "ytlnhpccapadpmaa", sum := "a8b62c69875ddeaf48591241bcc7371f0ec16c08730996460743f3dc589f3c79", checked := Try.checked }
namespace Rows
def none {H : Type} : Left H := { results := [], args := [] }

/-- 'spoorlaw13.SketchNames': WHATEVER THE INPUT: true; the input reads as it did. -/
def sketchNamesSpec : ChangeSpec := { name := "sketchNames", fn := fun _ => fun
  | [] => { results := [.lit (.bool true)], args := [] }
  | _ => none }
def sketchNamesRow : OpenClaim := { program := "ytlnhpccapadpmaa", sum := "a8b62c69875ddeaf48591241bcc7371f0ec16c08730996460743f3dc589f3c79", func := "spoor/spoorlaw13.SketchNames", spec := "sketchNames", inPlace := ["math/bits.Add64"], named := ["math/bits.divideError", "math/bits.overflowError"], apart := false }
def SketchNamesSaid : Prop := sketchNamesRow.holds Try.pinned (OpenSpec.ofChange sketchNamesSpec)

/-- ITS FALSE NEIGHBOUR: 'it returns false'. Refute it at one input. -/
def sketchNamesWrong : ChangeSpec := { name := "sketchNames", fn := fun _ => fun
  | [] => { results := [.lit (.bool false)], args := [] }
  | _ => none }
def SketchNamesWrongFalsely : Prop := sketchNamesRow.holds Try.pinned (OpenSpec.ofChange sketchNamesWrong)

/-- 'spoorlaw13.SketchBars': WHATEVER THE INPUT: true; the input reads as it did. -/
def sketchBarsSpec : ChangeSpec := { name := "sketchBars", fn := fun _ => fun
  | [d1, d2] => { results := [.lit (.bool true)], args := [d1, d2] }
  | _ => none }
def sketchBarsRow : OpenClaim := { program := "ytlnhpccapadpmaa", sum := "a8b62c69875ddeaf48591241bcc7371f0ec16c08730996460743f3dc589f3c79", func := "spoor/spoorlaw13.SketchBars", spec := "sketchBars", inPlace := ["math/bits.Add64"], named := ["math/bits.divideError", "math/bits.overflowError"], apart := false }
def SketchBarsSaid : Prop := sketchBarsRow.holds Try.pinned (OpenSpec.ofChange sketchBarsSpec)

/-- ITS FALSE NEIGHBOUR: 'it returns false'. Refute it at one input. -/
def sketchBarsWrong : ChangeSpec := { name := "sketchBars", fn := fun _ => fun
  | [d1, d2] => { results := [.lit (.bool false)], args := [d1, d2] }
  | _ => none }
def SketchBarsWrongFalsely : Prop := sketchBarsRow.holds Try.pinned (OpenSpec.ofChange sketchBarsWrong)

/-- 'spoorlaw13.SketchRight': WHATEVER THE INPUT: true; the input reads as it did. -/
def sketchRightSpec : ChangeSpec := { name := "sketchRight", fn := fun _ => fun
  | [d1, d2, d3, d4] => { results := [.lit (.bool true)], args := [d1, d2, d3, d4] }
  | _ => none }
def sketchRightRow : OpenClaim := { program := "ytlnhpccapadpmaa", sum := "a8b62c69875ddeaf48591241bcc7371f0ec16c08730996460743f3dc589f3c79", func := "spoor/spoorlaw13.SketchRight", spec := "sketchRight", inPlace := ["math/bits.Add64"], named := ["math/bits.divideError", "math/bits.overflowError"], apart := false }
def SketchRightSaid : Prop := sketchRightRow.holds Try.pinned (OpenSpec.ofChange sketchRightSpec)

/-- ITS FALSE NEIGHBOUR: 'it returns false'. Refute it at one input. -/
def sketchRightWrong : ChangeSpec := { name := "sketchRight", fn := fun _ => fun
  | [d1, d2, d3, d4] => { results := [.lit (.bool false)], args := [d1, d2, d3, d4] }
  | _ => none }
def SketchRightWrongFalsely : Prop := sketchRightRow.holds Try.pinned (OpenSpec.ofChange sketchRightWrong)

/-- 'spoorlaw13.SketchSums': WHATEVER THE INPUT: true; the input reads as it did. -/
def sketchSumsSpec : ChangeSpec := { name := "sketchSums", fn := fun _ => fun
  | [d1, d2, d3, d4] => { results := [.lit (.bool true)], args := [d1, d2, d3, d4] }
  | _ => none }
def sketchSumsRow : OpenClaim := { program := "ytlnhpccapadpmaa", sum := "a8b62c69875ddeaf48591241bcc7371f0ec16c08730996460743f3dc589f3c79", func := "spoor/spoorlaw13.SketchSums", spec := "sketchSums", inPlace := ["math/bits.Add64"], named := ["math/bits.divideError", "math/bits.overflowError"], apart := false }
def SketchSumsSaid : Prop := sketchSumsRow.holds Try.pinned (OpenSpec.ofChange sketchSumsSpec)

/-- ITS FALSE NEIGHBOUR: 'it returns false'. Refute it at one input. -/
def sketchSumsWrong : ChangeSpec := { name := "sketchSums", fn := fun _ => fun
  | [d1, d2, d3, d4] => { results := [.lit (.bool false)], args := [d1, d2, d3, d4] }
  | _ => none }
def SketchSumsWrongFalsely : Prop := sketchSumsRow.holds Try.pinned (OpenSpec.ofChange sketchSumsWrong)

/-- 'spoorlaw13.SketchPlays': WHATEVER THE INPUT: true; the input reads as it did. -/
def sketchPlaysSpec : ChangeSpec := { name := "sketchPlays", fn := fun _ => fun
  | [d] => { results := [.lit (.bool true)], args := [d] }
  | _ => none }
def sketchPlaysRow : OpenClaim := { program := "ytlnhpccapadpmaa", sum := "a8b62c69875ddeaf48591241bcc7371f0ec16c08730996460743f3dc589f3c79", func := "spoor/spoorlaw13.SketchPlays", spec := "sketchPlays", inPlace := ["math/bits.Add64"], named := ["math/bits.divideError", "math/bits.overflowError"], apart := false }
def SketchPlaysSaid : Prop := sketchPlaysRow.holds Try.pinned (OpenSpec.ofChange sketchPlaysSpec)

/-- ITS FALSE NEIGHBOUR: 'it returns false'. Refute it at one input. -/
def sketchPlaysWrong : ChangeSpec := { name := "sketchPlays", fn := fun _ => fun
  | [d] => { results := [.lit (.bool false)], args := [d] }
  | _ => none }
def SketchPlaysWrongFalsely : Prop := sketchPlaysRow.holds Try.pinned (OpenSpec.ofChange sketchPlaysWrong)

/-- 'spoorlaw13.SketchLess': WHATEVER THE INPUT: true; the input reads as it did. -/
def sketchLessSpec : ChangeSpec := { name := "sketchLess", fn := fun _ => fun
  | [d1, d2] => { results := [.lit (.bool true)], args := [d1, d2] }
  | _ => none }
def sketchLessRow : OpenClaim := { program := "ytlnhpccapadpmaa", sum := "a8b62c69875ddeaf48591241bcc7371f0ec16c08730996460743f3dc589f3c79", func := "spoor/spoorlaw13.SketchLess", spec := "sketchLess", inPlace := ["math/bits.Add64"], named := ["math/bits.divideError", "math/bits.overflowError"], apart := false }
def SketchLessSaid : Prop := sketchLessRow.holds Try.pinned (OpenSpec.ofChange sketchLessSpec)

/-- ITS FALSE NEIGHBOUR: 'it returns false'. Refute it at one input. -/
def sketchLessWrong : ChangeSpec := { name := "sketchLess", fn := fun _ => fun
  | [d1, d2] => { results := [.lit (.bool false)], args := [d1, d2] }
  | _ => none }
def SketchLessWrongFalsely : Prop := sketchLessRow.holds Try.pinned (OpenSpec.ofChange sketchLessWrong)

/- THE SECOND FORM. 'bulk': how many values and letters a reading holds, each counted each time it is reached (what is shared counts as often as it is met; a slice's spare places count too). A statement '..UptoSaid' is the law's where the arguments, and the package variables that the reading takes, are together of bulk at most 1048576: NARROWER than '..Said'. Prove '..Said' where nothing that the law and all that it calls make is longer than what came in: it says more and counts as full. Else prove '..UptoSaid'. A law counts once. -/
mutual
def uptoBulk {H : Type} : DataW H → Nat
  | .lit (.string bytes) => bytes.length + 1
  | .lit _ => 1
  | .nil => 1
  | .ptr d => uptoBulk d + 1
  | .slice elems spare => uptoBulkAll elems + uptoBulkAll spare + 1
  | .agg parts => uptoBulkAll parts + 1
  | .iface _ d => uptoBulk d + 1
  | .map entries => uptoBulkEntries entries + 1
  | .held _ => 1
def uptoBulkAll {H : Type} : List (DataW H) → Nat
  | [] => 0
  | d :: r => uptoBulk d + uptoBulkAll r
def uptoBulkEntries {H : Type} : List (Lit × DataW H) → Nat
  | [] => 0
  | x :: r => uptoBulkEntry x + uptoBulkEntries r
def uptoBulkEntry {H : Type} : Lit × DataW H → Nat
  | (.string bytes, d) => bytes.length + uptoBulk d + 1
  | (_, d) => uptoBulk d + 1
 end
def uptoSmall : (H : Type) → List (DataW H) → Bool := fun _ ds => decide (uptoBulkAll ds ≤ 1048576)
def OpenSpec.upto (s : _root_.Go.ChangeSpec) : _root_.Go.OpenSpec := { _root_.Go.OpenSpec.ofChange s with cond := some uptoSmall }

/-- 'spoorlaw13.SketchNames', WHERE WHAT IT READS IS OF BULK AT MOST 1048576: true; the input reads as it did. -/
def sketchNamesUptoRow : OpenClaim := { program := "ytlnhpccapadpmaa", sum := "a8b62c69875ddeaf48591241bcc7371f0ec16c08730996460743f3dc589f3c79", func := "spoor/spoorlaw13.SketchNames", spec := "sketchNames", inPlace := ["math/bits.Add64"], named := ["math/bits.divideError", "math/bits.overflowError"], apart := false, narrowed := true }
def SketchNamesUptoSaid : Prop := sketchNamesUptoRow.holds Try.pinned (OpenSpec.upto sketchNamesSpec)

/-- 'spoorlaw13.SketchBars', WHERE WHAT IT READS IS OF BULK AT MOST 1048576: true; the input reads as it did. -/
def sketchBarsUptoRow : OpenClaim := { program := "ytlnhpccapadpmaa", sum := "a8b62c69875ddeaf48591241bcc7371f0ec16c08730996460743f3dc589f3c79", func := "spoor/spoorlaw13.SketchBars", spec := "sketchBars", inPlace := ["math/bits.Add64"], named := ["math/bits.divideError", "math/bits.overflowError"], apart := false, narrowed := true }
def SketchBarsUptoSaid : Prop := sketchBarsUptoRow.holds Try.pinned (OpenSpec.upto sketchBarsSpec)

/-- 'spoorlaw13.SketchRight', WHERE WHAT IT READS IS OF BULK AT MOST 1048576: true; the input reads as it did. -/
def sketchRightUptoRow : OpenClaim := { program := "ytlnhpccapadpmaa", sum := "a8b62c69875ddeaf48591241bcc7371f0ec16c08730996460743f3dc589f3c79", func := "spoor/spoorlaw13.SketchRight", spec := "sketchRight", inPlace := ["math/bits.Add64"], named := ["math/bits.divideError", "math/bits.overflowError"], apart := false, narrowed := true }
def SketchRightUptoSaid : Prop := sketchRightUptoRow.holds Try.pinned (OpenSpec.upto sketchRightSpec)

/-- 'spoorlaw13.SketchSums', WHERE WHAT IT READS IS OF BULK AT MOST 1048576: true; the input reads as it did. -/
def sketchSumsUptoRow : OpenClaim := { program := "ytlnhpccapadpmaa", sum := "a8b62c69875ddeaf48591241bcc7371f0ec16c08730996460743f3dc589f3c79", func := "spoor/spoorlaw13.SketchSums", spec := "sketchSums", inPlace := ["math/bits.Add64"], named := ["math/bits.divideError", "math/bits.overflowError"], apart := false, narrowed := true }
def SketchSumsUptoSaid : Prop := sketchSumsUptoRow.holds Try.pinned (OpenSpec.upto sketchSumsSpec)

/-- 'spoorlaw13.SketchPlays', WHERE WHAT IT READS IS OF BULK AT MOST 1048576: true; the input reads as it did. -/
def sketchPlaysUptoRow : OpenClaim := { program := "ytlnhpccapadpmaa", sum := "a8b62c69875ddeaf48591241bcc7371f0ec16c08730996460743f3dc589f3c79", func := "spoor/spoorlaw13.SketchPlays", spec := "sketchPlays", inPlace := ["math/bits.Add64"], named := ["math/bits.divideError", "math/bits.overflowError"], apart := false, narrowed := true }
def SketchPlaysUptoSaid : Prop := sketchPlaysUptoRow.holds Try.pinned (OpenSpec.upto sketchPlaysSpec)

/-- 'spoorlaw13.SketchLess', WHERE WHAT IT READS IS OF BULK AT MOST 1048576: true; the input reads as it did. -/
def sketchLessUptoRow : OpenClaim := { program := "ytlnhpccapadpmaa", sum := "a8b62c69875ddeaf48591241bcc7371f0ec16c08730996460743f3dc589f3c79", func := "spoor/spoorlaw13.SketchLess", spec := "sketchLess", inPlace := ["math/bits.Add64"], named := ["math/bits.divideError", "math/bits.overflowError"], apart := false, narrowed := true }
def SketchLessUptoSaid : Prop := sketchLessUptoRow.holds Try.pinned (OpenSpec.upto sketchLessSpec)

end Rows
end Go.Proofs.Ytlnhpccapadpmaa
