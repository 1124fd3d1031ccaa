/-
  NARROWER THAN 'FOR EVERY INPUT', by the rows' own cells (each row's printed sentence says how): SampleNames: laid · SampleMixes: laid · SampleDecides: laid · SampleOnto: laid · SampleWeighs: laid · SampleGreater: laid · SampleFews: laid · SampleFew: laid.
  DERIVED. THE GIVEN ROWS OF THIS SEAT. 8 by the template 'for every input the law returns true; each argument reads behind the call as it read before'; 0 by the template 'total and deterministic' (their statements: YtdlnfmakfnggpaaDoorTotals.lean).
  GIVEN WITH THE SEED: the statements are not yours to turn. If you find one false, say at which input.
  Laid BY PROGRAM, IN A SANDBOX (cutbox-rows.mjs): the forced cells as the released guide's own fill.sh prints them over the translation 1300a1adfab35e56… (all of the seat's roots in one cut). By AI agents, Wed Nov 11 2026. No macro, syntax, notation, axiom, sorry.
-/
import Derived.Test.YtdlnfmakfnggpaaDoorChecked
import GoSem.PinnedTables
import GoSem.Claim
import GoSem.ClaimJoined
import GoSem.ClaimMapViews
import Derived.JoinedTies
import Derived.KernelRfl
namespace Go.Proofs.YtdlnfmakfnggpaaDoor
/- THE CELL 'sum', in the pinned program and in every row, IS THE sha256 OF THE DUMP (.gsa) THAT YtdlnfmakfnggpaaDoorProg.lean LOADS. Nothing in Lean hashes anything: it is a label: what it is worth is what the hold of that sum in a sandbox is worth. -/
noncomputable def Tryd.pinned : Pinned := { name := "ytdlnfmakfnggpaadoor", sum := "1300a1adfab35e56c38501da31603e52cb3d76cc7920b9db43ac8debe33641f3", checked := Tryd.checked }
namespace Rows
def none {H : Type} : Left H := { results := [], args := [] }

/- WHAT THE LISTED PACKAGE-LEVEL VARIABLES READ AS WHEN THE CALL BEGINS. Each datum BY PROGRAM (the guide's laid-datum.mjs) off the statement by which the dump's own 'gosem.cut.vars' lays the variable. In a bare row this is a premise. The card (YtdlnfmakfnggpaaDoorCards.lean) ties it to the program's text. -/
def laid_unicode_utf8_acceptRanges {H : Type} : DataW H := .agg [.agg [.lit (.int .u8 128), .lit (.int .u8 191)], .agg [.lit (.int .u8 160), .lit (.int .u8 191)], .agg [.lit (.int .u8 128), .lit (.int .u8 159)], .agg [.lit (.int .u8 144), .lit (.int .u8 191)], .agg [.lit (.int .u8 128), .lit (.int .u8 143)], .agg [.lit (.int .u8 0), .lit (.int .u8 0)], .agg [.lit (.int .u8 0), .lit (.int .u8 0)], .agg [.lit (.int .u8 0), .lit (.int .u8 0)], .agg [.lit (.int .u8 0), .lit (.int .u8 0)], .agg [.lit (.int .u8 0), .lit (.int .u8 0)], .agg [.lit (.int .u8 0), .lit (.int .u8 0)], .agg [.lit (.int .u8 0), .lit (.int .u8 0)], .agg [.lit (.int .u8 0), .lit (.int .u8 0)], .agg [.lit (.int .u8 0), .lit (.int .u8 0)], .agg [.lit (.int .u8 0), .lit (.int .u8 0)], .agg [.lit (.int .u8 0), .lit (.int .u8 0)]]
/-- One of Go's own tables, pinned by name: the form's constant. -/
def laid_unicode_utf8_first : DataW Unit := Go.Pinned.utf8First

/-- 'spoorlaw21.SampleNames': WHATEVER THE INPUT: true; the input reads as it did. -/
def sampleNamesSpec : ChangeSpec := { name := "sampleNames", fn := fun _ => fun
  | [] => { results := [.lit (.bool true)], args := [] }
  | _ => none }
def sampleNamesRow : OpenClaim := { program := "ytdlnfmakfnggpaadoor", sum := "1300a1adfab35e56c38501da31603e52cb3d76cc7920b9db43ac8debe33641f3", func := "spoor/spoorlaw21.SampleNames", spec := "sampleNames", inPlace := ["internal/bytealg.IndexByteString", "internal/bytealg.IndexString", "internal/bytealg.abigen_runtime_cmpstring", "slices.overlaps[spoor/sample.chance]"], unfollowed := true, recurses := true, named := ["unicode/utf8.first", "unicode/utf8.acceptRanges", "internal/bytealg.MaxLen", "math/bits.divideError", "math/bits.overflowError"], apart := false, laid := [("unicode/utf8.acceptRanges", laid_unicode_utf8_acceptRanges), ("unicode/utf8.first", laid_unicode_utf8_first)] }
def SampleNamesSaid : Prop := sampleNamesRow.holds Tryd.pinned (OpenSpec.ofChange sampleNamesSpec)

/-- ITS FALSE NEIGHBOUR: 'it returns false'. Refute it at one input. -/
def sampleNamesWrong : ChangeSpec := { name := "sampleNames", fn := fun _ => fun
  | [] => { results := [.lit (.bool false)], args := [] }
  | _ => none }
def SampleNamesWrongFalsely : Prop := sampleNamesRow.holds Tryd.pinned (OpenSpec.ofChange sampleNamesWrong)

/-- 'spoorlaw21.SampleMixes': WHATEVER THE INPUT: true; the input reads as it did. -/
def sampleMixesSpec : ChangeSpec := { name := "sampleMixes", fn := fun _ => fun
  | [d1, d2] => { results := [.lit (.bool true)], args := [d1, d2] }
  | _ => none }
def sampleMixesRow : OpenClaim := { program := "ytdlnfmakfnggpaadoor", sum := "1300a1adfab35e56c38501da31603e52cb3d76cc7920b9db43ac8debe33641f3", func := "spoor/spoorlaw21.SampleMixes", spec := "sampleMixes", inPlace := ["internal/bytealg.IndexByteString", "internal/bytealg.IndexString", "internal/bytealg.abigen_runtime_cmpstring", "slices.overlaps[spoor/sample.chance]"], unfollowed := true, recurses := true, named := ["unicode/utf8.first", "unicode/utf8.acceptRanges", "internal/bytealg.MaxLen", "math/bits.divideError", "math/bits.overflowError"], apart := false, laid := [("unicode/utf8.acceptRanges", laid_unicode_utf8_acceptRanges), ("unicode/utf8.first", laid_unicode_utf8_first)] }
def SampleMixesSaid : Prop := sampleMixesRow.holds Tryd.pinned (OpenSpec.ofChange sampleMixesSpec)

/-- ITS FALSE NEIGHBOUR: 'it returns false'. Refute it at one input. -/
def sampleMixesWrong : ChangeSpec := { name := "sampleMixes", fn := fun _ => fun
  | [d1, d2] => { results := [.lit (.bool false)], args := [d1, d2] }
  | _ => none }
def SampleMixesWrongFalsely : Prop := sampleMixesRow.holds Tryd.pinned (OpenSpec.ofChange sampleMixesWrong)

/-- 'spoorlaw21.SampleDecides': WHATEVER THE INPUT: true; the input reads as it did. -/
def sampleDecidesSpec : ChangeSpec := { name := "sampleDecides", fn := fun _ => fun
  | [d1, d2] => { results := [.lit (.bool true)], args := [d1, d2] }
  | _ => none }
def sampleDecidesRow : OpenClaim := { program := "ytdlnfmakfnggpaadoor", sum := "1300a1adfab35e56c38501da31603e52cb3d76cc7920b9db43ac8debe33641f3", func := "spoor/spoorlaw21.SampleDecides", spec := "sampleDecides", inPlace := ["internal/bytealg.IndexByteString", "internal/bytealg.IndexString", "internal/bytealg.abigen_runtime_cmpstring", "slices.overlaps[spoor/sample.chance]"], unfollowed := true, recurses := true, named := ["unicode/utf8.first", "unicode/utf8.acceptRanges", "internal/bytealg.MaxLen", "math/bits.divideError", "math/bits.overflowError"], apart := false, laid := [("unicode/utf8.acceptRanges", laid_unicode_utf8_acceptRanges), ("unicode/utf8.first", laid_unicode_utf8_first)] }
def SampleDecidesSaid : Prop := sampleDecidesRow.holds Tryd.pinned (OpenSpec.ofChange sampleDecidesSpec)

/-- ITS FALSE NEIGHBOUR: 'it returns false'. Refute it at one input. -/
def sampleDecidesWrong : ChangeSpec := { name := "sampleDecides", fn := fun _ => fun
  | [d1, d2] => { results := [.lit (.bool false)], args := [d1, d2] }
  | _ => none }
def SampleDecidesWrongFalsely : Prop := sampleDecidesRow.holds Tryd.pinned (OpenSpec.ofChange sampleDecidesWrong)

/-- 'spoorlaw21.SampleOnto': WHATEVER THE INPUT: true; the input reads as it did. -/
def sampleOntoSpec : ChangeSpec := { name := "sampleOnto", fn := fun _ => fun
  | [d1, d2, d3] => { results := [.lit (.bool true)], args := [d1, d2, d3] }
  | _ => none }
def sampleOntoRow : OpenClaim := { program := "ytdlnfmakfnggpaadoor", sum := "1300a1adfab35e56c38501da31603e52cb3d76cc7920b9db43ac8debe33641f3", func := "spoor/spoorlaw21.SampleOnto", spec := "sampleOnto", inPlace := ["internal/bytealg.IndexByteString", "internal/bytealg.IndexString", "internal/bytealg.abigen_runtime_cmpstring", "slices.overlaps[spoor/sample.chance]"], unfollowed := true, recurses := true, named := ["unicode/utf8.first", "unicode/utf8.acceptRanges", "internal/bytealg.MaxLen", "math/bits.divideError", "math/bits.overflowError"], apart := false, laid := [("unicode/utf8.acceptRanges", laid_unicode_utf8_acceptRanges), ("unicode/utf8.first", laid_unicode_utf8_first)] }
def SampleOntoSaid : Prop := sampleOntoRow.holds Tryd.pinned (OpenSpec.ofChange sampleOntoSpec)

/-- ITS FALSE NEIGHBOUR: 'it returns false'. Refute it at one input. -/
def sampleOntoWrong : ChangeSpec := { name := "sampleOnto", fn := fun _ => fun
  | [d1, d2, d3] => { results := [.lit (.bool false)], args := [d1, d2, d3] }
  | _ => none }
def SampleOntoWrongFalsely : Prop := sampleOntoRow.holds Tryd.pinned (OpenSpec.ofChange sampleOntoWrong)

/-- 'spoorlaw21.SampleWeighs': WHATEVER THE INPUT: true; the input reads as it did. -/
def sampleWeighsSpec : ChangeSpec := { name := "sampleWeighs", fn := fun _ => fun
  | [d1, d2, d3, d4] => { results := [.lit (.bool true)], args := [d1, d2, d3, d4] }
  | _ => none }
def sampleWeighsRow : OpenClaim := { program := "ytdlnfmakfnggpaadoor", sum := "1300a1adfab35e56c38501da31603e52cb3d76cc7920b9db43ac8debe33641f3", func := "spoor/spoorlaw21.SampleWeighs", spec := "sampleWeighs", inPlace := ["internal/bytealg.IndexByteString", "internal/bytealg.IndexString", "internal/bytealg.abigen_runtime_cmpstring", "slices.overlaps[spoor/sample.chance]"], unfollowed := true, recurses := true, named := ["unicode/utf8.first", "unicode/utf8.acceptRanges", "internal/bytealg.MaxLen", "math/bits.divideError", "math/bits.overflowError"], apart := false, laid := [("unicode/utf8.acceptRanges", laid_unicode_utf8_acceptRanges), ("unicode/utf8.first", laid_unicode_utf8_first)] }
def SampleWeighsSaid : Prop := sampleWeighsRow.holds Tryd.pinned (OpenSpec.ofChange sampleWeighsSpec)

/-- ITS FALSE NEIGHBOUR: 'it returns false'. Refute it at one input. -/
def sampleWeighsWrong : ChangeSpec := { name := "sampleWeighs", fn := fun _ => fun
  | [d1, d2, d3, d4] => { results := [.lit (.bool false)], args := [d1, d2, d3, d4] }
  | _ => none }
def SampleWeighsWrongFalsely : Prop := sampleWeighsRow.holds Tryd.pinned (OpenSpec.ofChange sampleWeighsWrong)

/-- 'spoorlaw21.SampleGreater': WHATEVER THE INPUT: true; the input reads as it did. -/
def sampleGreaterSpec : ChangeSpec := { name := "sampleGreater", fn := fun _ => fun
  | [d1, d2, d3, d4, d5] => { results := [.lit (.bool true)], args := [d1, d2, d3, d4, d5] }
  | _ => none }
def sampleGreaterRow : OpenClaim := { program := "ytdlnfmakfnggpaadoor", sum := "1300a1adfab35e56c38501da31603e52cb3d76cc7920b9db43ac8debe33641f3", func := "spoor/spoorlaw21.SampleGreater", spec := "sampleGreater", inPlace := ["internal/bytealg.IndexByteString", "internal/bytealg.IndexString", "internal/bytealg.abigen_runtime_cmpstring", "slices.overlaps[spoor/sample.chance]"], unfollowed := true, recurses := true, named := ["unicode/utf8.first", "unicode/utf8.acceptRanges", "internal/bytealg.MaxLen", "math/bits.divideError", "math/bits.overflowError"], apart := false, laid := [("unicode/utf8.acceptRanges", laid_unicode_utf8_acceptRanges), ("unicode/utf8.first", laid_unicode_utf8_first)] }
def SampleGreaterSaid : Prop := sampleGreaterRow.holds Tryd.pinned (OpenSpec.ofChange sampleGreaterSpec)

/-- ITS FALSE NEIGHBOUR: 'it returns false'. Refute it at one input. -/
def sampleGreaterWrong : ChangeSpec := { name := "sampleGreater", fn := fun _ => fun
  | [d1, d2, d3, d4, d5] => { results := [.lit (.bool false)], args := [d1, d2, d3, d4, d5] }
  | _ => none }
def SampleGreaterWrongFalsely : Prop := sampleGreaterRow.holds Tryd.pinned (OpenSpec.ofChange sampleGreaterWrong)

/-- 'spoorlaw21.SampleFews': WHATEVER THE INPUT: true; the input reads as it did. -/
def sampleFewsSpec : ChangeSpec := { name := "sampleFews", fn := fun _ => fun
  | [d1, d2, d3] => { results := [.lit (.bool true)], args := [d1, d2, d3] }
  | _ => none }
def sampleFewsRow : OpenClaim := { program := "ytdlnfmakfnggpaadoor", sum := "1300a1adfab35e56c38501da31603e52cb3d76cc7920b9db43ac8debe33641f3", func := "spoor/spoorlaw21.SampleFews", spec := "sampleFews", inPlace := ["internal/bytealg.IndexByteString", "internal/bytealg.IndexString", "internal/bytealg.abigen_runtime_cmpstring", "slices.overlaps[spoor/sample.chance]"], unfollowed := true, recurses := true, named := ["unicode/utf8.first", "unicode/utf8.acceptRanges", "internal/bytealg.MaxLen", "math/bits.divideError", "math/bits.overflowError"], apart := false, laid := [("unicode/utf8.acceptRanges", laid_unicode_utf8_acceptRanges), ("unicode/utf8.first", laid_unicode_utf8_first)] }
def SampleFewsSaid : Prop := sampleFewsRow.holds Tryd.pinned (OpenSpec.ofChange sampleFewsSpec)

/-- ITS FALSE NEIGHBOUR: 'it returns false'. Refute it at one input. -/
def sampleFewsWrong : ChangeSpec := { name := "sampleFews", fn := fun _ => fun
  | [d1, d2, d3] => { results := [.lit (.bool false)], args := [d1, d2, d3] }
  | _ => none }
def SampleFewsWrongFalsely : Prop := sampleFewsRow.holds Tryd.pinned (OpenSpec.ofChange sampleFewsWrong)

/-- 'spoorlaw21.SampleFew': WHATEVER THE INPUT: true; the input reads as it did. -/
def sampleFewSpec : ChangeSpec := { name := "sampleFew", fn := fun _ => fun
  | [d1, d2, d3] => { results := [.lit (.bool true)], args := [d1, d2, d3] }
  | _ => none }
def sampleFewRow : OpenClaim := { program := "ytdlnfmakfnggpaadoor", sum := "1300a1adfab35e56c38501da31603e52cb3d76cc7920b9db43ac8debe33641f3", func := "spoor/spoorlaw21.SampleFew", spec := "sampleFew", inPlace := ["internal/bytealg.IndexByteString", "internal/bytealg.IndexString", "internal/bytealg.abigen_runtime_cmpstring", "slices.overlaps[spoor/sample.chance]"], unfollowed := true, recurses := true, named := ["unicode/utf8.first", "unicode/utf8.acceptRanges", "internal/bytealg.MaxLen", "math/bits.divideError", "math/bits.overflowError"], apart := false, laid := [("unicode/utf8.acceptRanges", laid_unicode_utf8_acceptRanges), ("unicode/utf8.first", laid_unicode_utf8_first)] }
def SampleFewSaid : Prop := sampleFewRow.holds Tryd.pinned (OpenSpec.ofChange sampleFewSpec)

/-- ITS FALSE NEIGHBOUR: 'it returns false'. Refute it at one input. -/
def sampleFewWrong : ChangeSpec := { name := "sampleFew", fn := fun _ => fun
  | [d1, d2, d3] => { results := [.lit (.bool false)], args := [d1, d2, d3] }
  | _ => none }
def SampleFewWrongFalsely : Prop := sampleFewRow.holds Tryd.pinned (OpenSpec.ofChange sampleFewWrong)

/- THE SECOND FORM. 'bulk': how many values and letters a reading holds, each counted each time it is reached (what is shared counts as often as it is met; a slice's spare places count too). A statement '..UptoSaid' is the law's where the arguments, and the package variables that the reading takes, are together of bulk at most 1048576: NARROWER than '..Said'. Prove '..Said' where nothing that the law and all that it calls make is longer than what came in: it says more and counts as full. Else prove '..UptoSaid'. A law counts once. -/
mutual
def uptoBulk {H : Type} : DataW H → Nat
  | .lit (.string bytes) => bytes.length + 1
  | .lit _ => 1
  | .nil => 1
  | .ptr d => uptoBulk d + 1
  | .slice elems spare => uptoBulkAll elems + uptoBulkAll spare + 1
  | .agg parts => uptoBulkAll parts + 1
  | .iface _ d => uptoBulk d + 1
  | .map entries => uptoBulkEntries entries + 1
  | .held _ => 1
def uptoBulkAll {H : Type} : List (DataW H) → Nat
  | [] => 0
  | d :: r => uptoBulk d + uptoBulkAll r
def uptoBulkEntries {H : Type} : List (Lit × DataW H) → Nat
  | [] => 0
  | x :: r => uptoBulkEntry x + uptoBulkEntries r
def uptoBulkEntry {H : Type} : Lit × DataW H → Nat
  | (.string bytes, d) => bytes.length + uptoBulk d + 1
  | (_, d) => uptoBulk d + 1
 end
def uptoSmall : (H : Type) → List (DataW H) → Bool := fun _ ds => decide (uptoBulkAll ds ≤ 1048576)
def OpenSpec.upto (s : _root_.Go.ChangeSpec) : _root_.Go.OpenSpec := { _root_.Go.OpenSpec.ofChange s with cond := some uptoSmall }

/-- 'spoorlaw21.SampleNames', WHERE WHAT IT READS IS OF BULK AT MOST 1048576: true; the input reads as it did. -/
def sampleNamesUptoRow : OpenClaim := { program := "ytdlnfmakfnggpaadoor", sum := "1300a1adfab35e56c38501da31603e52cb3d76cc7920b9db43ac8debe33641f3", func := "spoor/spoorlaw21.SampleNames", spec := "sampleNames", inPlace := ["internal/bytealg.IndexByteString", "internal/bytealg.IndexString", "internal/bytealg.abigen_runtime_cmpstring", "slices.overlaps[spoor/sample.chance]"], unfollowed := true, recurses := true, named := ["unicode/utf8.first", "unicode/utf8.acceptRanges", "internal/bytealg.MaxLen", "math/bits.divideError", "math/bits.overflowError"], apart := false, laid := [("unicode/utf8.acceptRanges", laid_unicode_utf8_acceptRanges), ("unicode/utf8.first", laid_unicode_utf8_first)], narrowed := true }
def SampleNamesUptoSaid : Prop := sampleNamesUptoRow.holds Tryd.pinned (OpenSpec.upto sampleNamesSpec)

/-- 'spoorlaw21.SampleMixes', WHERE WHAT IT READS IS OF BULK AT MOST 1048576: true; the input reads as it did. -/
def sampleMixesUptoRow : OpenClaim := { program := "ytdlnfmakfnggpaadoor", sum := "1300a1adfab35e56c38501da31603e52cb3d76cc7920b9db43ac8debe33641f3", func := "spoor/spoorlaw21.SampleMixes", spec := "sampleMixes", inPlace := ["internal/bytealg.IndexByteString", "internal/bytealg.IndexString", "internal/bytealg.abigen_runtime_cmpstring", "slices.overlaps[spoor/sample.chance]"], unfollowed := true, recurses := true, named := ["unicode/utf8.first", "unicode/utf8.acceptRanges", "internal/bytealg.MaxLen", "math/bits.divideError", "math/bits.overflowError"], apart := false, laid := [("unicode/utf8.acceptRanges", laid_unicode_utf8_acceptRanges), ("unicode/utf8.first", laid_unicode_utf8_first)], narrowed := true }
def SampleMixesUptoSaid : Prop := sampleMixesUptoRow.holds Tryd.pinned (OpenSpec.upto sampleMixesSpec)

/-- 'spoorlaw21.SampleDecides', WHERE WHAT IT READS IS OF BULK AT MOST 1048576: true; the input reads as it did. -/
def sampleDecidesUptoRow : OpenClaim := { program := "ytdlnfmakfnggpaadoor", sum := "1300a1adfab35e56c38501da31603e52cb3d76cc7920b9db43ac8debe33641f3", func := "spoor/spoorlaw21.SampleDecides", spec := "sampleDecides", inPlace := ["internal/bytealg.IndexByteString", "internal/bytealg.IndexString", "internal/bytealg.abigen_runtime_cmpstring", "slices.overlaps[spoor/sample.chance]"], unfollowed := true, recurses := true, named := ["unicode/utf8.first", "unicode/utf8.acceptRanges", "internal/bytealg.MaxLen", "math/bits.divideError", "math/bits.overflowError"], apart := false, laid := [("unicode/utf8.acceptRanges", laid_unicode_utf8_acceptRanges), ("unicode/utf8.first", laid_unicode_utf8_first)], narrowed := true }
def SampleDecidesUptoSaid : Prop := sampleDecidesUptoRow.holds Tryd.pinned (OpenSpec.upto sampleDecidesSpec)

/-- 'spoorlaw21.SampleOnto', WHERE WHAT IT READS IS OF BULK AT MOST 1048576: true; the input reads as it did. -/
def sampleOntoUptoRow : OpenClaim := { program := "ytdlnfmakfnggpaadoor", sum := "1300a1adfab35e56c38501da31603e52cb3d76cc7920b9db43ac8debe33641f3", func := "spoor/spoorlaw21.SampleOnto", spec := "sampleOnto", inPlace := ["internal/bytealg.IndexByteString", "internal/bytealg.IndexString", "internal/bytealg.abigen_runtime_cmpstring", "slices.overlaps[spoor/sample.chance]"], unfollowed := true, recurses := true, named := ["unicode/utf8.first", "unicode/utf8.acceptRanges", "internal/bytealg.MaxLen", "math/bits.divideError", "math/bits.overflowError"], apart := false, laid := [("unicode/utf8.acceptRanges", laid_unicode_utf8_acceptRanges), ("unicode/utf8.first", laid_unicode_utf8_first)], narrowed := true }
def SampleOntoUptoSaid : Prop := sampleOntoUptoRow.holds Tryd.pinned (OpenSpec.upto sampleOntoSpec)

/-- 'spoorlaw21.SampleWeighs', WHERE WHAT IT READS IS OF BULK AT MOST 1048576: true; the input reads as it did. -/
def sampleWeighsUptoRow : OpenClaim := { program := "ytdlnfmakfnggpaadoor", sum := "1300a1adfab35e56c38501da31603e52cb3d76cc7920b9db43ac8debe33641f3", func := "spoor/spoorlaw21.SampleWeighs", spec := "sampleWeighs", inPlace := ["internal/bytealg.IndexByteString", "internal/bytealg.IndexString", "internal/bytealg.abigen_runtime_cmpstring", "slices.overlaps[spoor/sample.chance]"], unfollowed := true, recurses := true, named := ["unicode/utf8.first", "unicode/utf8.acceptRanges", "internal/bytealg.MaxLen", "math/bits.divideError", "math/bits.overflowError"], apart := false, laid := [("unicode/utf8.acceptRanges", laid_unicode_utf8_acceptRanges), ("unicode/utf8.first", laid_unicode_utf8_first)], narrowed := true }
def SampleWeighsUptoSaid : Prop := sampleWeighsUptoRow.holds Tryd.pinned (OpenSpec.upto sampleWeighsSpec)

/-- 'spoorlaw21.SampleGreater', WHERE WHAT IT READS IS OF BULK AT MOST 1048576: true; the input reads as it did. -/
def sampleGreaterUptoRow : OpenClaim := { program := "ytdlnfmakfnggpaadoor", sum := "1300a1adfab35e56c38501da31603e52cb3d76cc7920b9db43ac8debe33641f3", func := "spoor/spoorlaw21.SampleGreater", spec := "sampleGreater", inPlace := ["internal/bytealg.IndexByteString", "internal/bytealg.IndexString", "internal/bytealg.abigen_runtime_cmpstring", "slices.overlaps[spoor/sample.chance]"], unfollowed := true, recurses := true, named := ["unicode/utf8.first", "unicode/utf8.acceptRanges", "internal/bytealg.MaxLen", "math/bits.divideError", "math/bits.overflowError"], apart := false, laid := [("unicode/utf8.acceptRanges", laid_unicode_utf8_acceptRanges), ("unicode/utf8.first", laid_unicode_utf8_first)], narrowed := true }
def SampleGreaterUptoSaid : Prop := sampleGreaterUptoRow.holds Tryd.pinned (OpenSpec.upto sampleGreaterSpec)

/-- 'spoorlaw21.SampleFews', WHERE WHAT IT READS IS OF BULK AT MOST 1048576: true; the input reads as it did. -/
def sampleFewsUptoRow : OpenClaim := { program := "ytdlnfmakfnggpaadoor", sum := "1300a1adfab35e56c38501da31603e52cb3d76cc7920b9db43ac8debe33641f3", func := "spoor/spoorlaw21.SampleFews", spec := "sampleFews", inPlace := ["internal/bytealg.IndexByteString", "internal/bytealg.IndexString", "internal/bytealg.abigen_runtime_cmpstring", "slices.overlaps[spoor/sample.chance]"], unfollowed := true, recurses := true, named := ["unicode/utf8.first", "unicode/utf8.acceptRanges", "internal/bytealg.MaxLen", "math/bits.divideError", "math/bits.overflowError"], apart := false, laid := [("unicode/utf8.acceptRanges", laid_unicode_utf8_acceptRanges), ("unicode/utf8.first", laid_unicode_utf8_first)], narrowed := true }
def SampleFewsUptoSaid : Prop := sampleFewsUptoRow.holds Tryd.pinned (OpenSpec.upto sampleFewsSpec)

/-- 'spoorlaw21.SampleFew', WHERE WHAT IT READS IS OF BULK AT MOST 1048576: true; the input reads as it did. -/
def sampleFewUptoRow : OpenClaim := { program := "ytdlnfmakfnggpaadoor", sum := "1300a1adfab35e56c38501da31603e52cb3d76cc7920b9db43ac8debe33641f3", func := "spoor/spoorlaw21.SampleFew", spec := "sampleFew", inPlace := ["internal/bytealg.IndexByteString", "internal/bytealg.IndexString", "internal/bytealg.abigen_runtime_cmpstring", "slices.overlaps[spoor/sample.chance]"], unfollowed := true, recurses := true, named := ["unicode/utf8.first", "unicode/utf8.acceptRanges", "internal/bytealg.MaxLen", "math/bits.divideError", "math/bits.overflowError"], apart := false, laid := [("unicode/utf8.acceptRanges", laid_unicode_utf8_acceptRanges), ("unicode/utf8.first", laid_unicode_utf8_first)], narrowed := true }
def SampleFewUptoSaid : Prop := sampleFewUptoRow.holds Tryd.pinned (OpenSpec.upto sampleFewSpec)

end Rows
end Go.Proofs.YtdlnfmakfnggpaaDoor
