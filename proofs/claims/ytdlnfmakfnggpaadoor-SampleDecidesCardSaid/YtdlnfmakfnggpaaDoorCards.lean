/-
  DERIVED. GIVEN WITH THE SEED: THE CARDS: each row of YtdlnfmakfnggpaaDoorRows.lean that lists a variable, with what it lists TIED to the program's text (the seventh form; the later family's looks); each row that meets fmt, with fmt's text TOLD by the authors' own Lean function (tested against real Go, not proved from fmt's source: count such statements apart). THE CARD IS WHAT COUNTS. Prove the row's statement (the work); the ties are given (YtdlnfmakfnggpaaDoorTie.lean); close each card by the builder's one call (the guide's Derived/Test/ToyasCard.lean, 'card_holds'). Laid BY PROGRAM, IN A SANDBOX (cutbox-door.mjs). By AI agents, Wed Nov 11 2026. No macro, syntax, notation, axiom, sorry.
-/
import Derived.Test.YtdlnfmakfnggpaaDoorRows
import GoSem.ClaimSeven
namespace Go.Proofs.YtdlnfmakfnggpaaDoor
namespace Rows

/-- THE TIED CARD OF 'spoorlaw21.SampleNames'. -/
def sampleNamesCard : Claim7 := { stood := { row := sampleNamesRow, standIns := [], harness := (true, "7631d723495a8bd18409fdcdf4864bbef60e793578dc15da218857241bbd4f93"), looks := false }, kinds := [], alts := [], laidByText := true, laidKinds := [.data, .pinned], laidTests := true, laidLooks := .later }
def SampleNamesCardSaid : Prop := Claim7.holds Tryd.pinned (.plain (OpenSpec.ofChange sampleNamesSpec)) sampleNamesCard

/-- THE TIED CARD OF 'spoorlaw21.SampleMixes'. -/
def sampleMixesCard : Claim7 := { stood := { row := sampleMixesRow, standIns := [], harness := (true, "7631d723495a8bd18409fdcdf4864bbef60e793578dc15da218857241bbd4f93"), looks := false }, kinds := [], alts := [], laidByText := true, laidKinds := [.data, .pinned], laidTests := true, laidLooks := .later }
def SampleMixesCardSaid : Prop := Claim7.holds Tryd.pinned (.plain (OpenSpec.ofChange sampleMixesSpec)) sampleMixesCard

/-- THE TIED CARD OF 'spoorlaw21.SampleDecides'. -/
def sampleDecidesCard : Claim7 := { stood := { row := sampleDecidesRow, standIns := [], harness := (true, "7631d723495a8bd18409fdcdf4864bbef60e793578dc15da218857241bbd4f93"), looks := false }, kinds := [], alts := [], laidByText := true, laidKinds := [.data, .pinned], laidTests := true, laidLooks := .later }
def SampleDecidesCardSaid : Prop := Claim7.holds Tryd.pinned (.plain (OpenSpec.ofChange sampleDecidesSpec)) sampleDecidesCard

/-- THE TIED CARD OF 'spoorlaw21.SampleOnto'. -/
def sampleOntoCard : Claim7 := { stood := { row := sampleOntoRow, standIns := [], harness := (true, "7631d723495a8bd18409fdcdf4864bbef60e793578dc15da218857241bbd4f93"), looks := false }, kinds := [], alts := [], laidByText := true, laidKinds := [.data, .pinned], laidTests := true, laidLooks := .later }
def SampleOntoCardSaid : Prop := Claim7.holds Tryd.pinned (.plain (OpenSpec.ofChange sampleOntoSpec)) sampleOntoCard

/-- THE TIED CARD OF 'spoorlaw21.SampleWeighs'. -/
def sampleWeighsCard : Claim7 := { stood := { row := sampleWeighsRow, standIns := [], harness := (true, "7631d723495a8bd18409fdcdf4864bbef60e793578dc15da218857241bbd4f93"), looks := false }, kinds := [], alts := [], laidByText := true, laidKinds := [.data, .pinned], laidTests := true, laidLooks := .later }
def SampleWeighsCardSaid : Prop := Claim7.holds Tryd.pinned (.plain (OpenSpec.ofChange sampleWeighsSpec)) sampleWeighsCard

/-- THE TIED CARD OF 'spoorlaw21.SampleGreater'. -/
def sampleGreaterCard : Claim7 := { stood := { row := sampleGreaterRow, standIns := [], harness := (true, "7631d723495a8bd18409fdcdf4864bbef60e793578dc15da218857241bbd4f93"), looks := false }, kinds := [], alts := [], laidByText := true, laidKinds := [.data, .pinned], laidTests := true, laidLooks := .later }
def SampleGreaterCardSaid : Prop := Claim7.holds Tryd.pinned (.plain (OpenSpec.ofChange sampleGreaterSpec)) sampleGreaterCard

/-- THE TIED CARD OF 'spoorlaw21.SampleFews'. -/
def sampleFewsCard : Claim7 := { stood := { row := sampleFewsRow, standIns := [], harness := (true, "7631d723495a8bd18409fdcdf4864bbef60e793578dc15da218857241bbd4f93"), looks := false }, kinds := [], alts := [], laidByText := true, laidKinds := [.data, .pinned], laidTests := true, laidLooks := .later }
def SampleFewsCardSaid : Prop := Claim7.holds Tryd.pinned (.plain (OpenSpec.ofChange sampleFewsSpec)) sampleFewsCard

/-- THE TIED CARD OF 'spoorlaw21.SampleFew'. -/
def sampleFewCard : Claim7 := { stood := { row := sampleFewRow, standIns := [], harness := (true, "7631d723495a8bd18409fdcdf4864bbef60e793578dc15da218857241bbd4f93"), looks := false }, kinds := [], alts := [], laidByText := true, laidKinds := [.data, .pinned], laidTests := true, laidLooks := .later }
def SampleFewCardSaid : Prop := Claim7.holds Tryd.pinned (.plain (OpenSpec.ofChange sampleFewSpec)) sampleFewCard

/-- THE SECOND FORM's CARD OF 'spoorlaw21.SampleNames'. -/
def sampleNamesUptoCard : Claim7 := { stood := { row := sampleNamesUptoRow, standIns := [], harness := (true, "7631d723495a8bd18409fdcdf4864bbef60e793578dc15da218857241bbd4f93"), looks := false }, kinds := [], alts := [], laidByText := true, laidKinds := [.data, .pinned], laidTests := true, laidLooks := .later }
def SampleNamesUptoCardSaid : Prop := Claim7.holds Tryd.pinned (.plain (OpenSpec.upto sampleNamesSpec)) sampleNamesUptoCard

/-- THE SECOND FORM's CARD OF 'spoorlaw21.SampleMixes'. -/
def sampleMixesUptoCard : Claim7 := { stood := { row := sampleMixesUptoRow, standIns := [], harness := (true, "7631d723495a8bd18409fdcdf4864bbef60e793578dc15da218857241bbd4f93"), looks := false }, kinds := [], alts := [], laidByText := true, laidKinds := [.data, .pinned], laidTests := true, laidLooks := .later }
def SampleMixesUptoCardSaid : Prop := Claim7.holds Tryd.pinned (.plain (OpenSpec.upto sampleMixesSpec)) sampleMixesUptoCard

/-- THE SECOND FORM's CARD OF 'spoorlaw21.SampleDecides'. -/
def sampleDecidesUptoCard : Claim7 := { stood := { row := sampleDecidesUptoRow, standIns := [], harness := (true, "7631d723495a8bd18409fdcdf4864bbef60e793578dc15da218857241bbd4f93"), looks := false }, kinds := [], alts := [], laidByText := true, laidKinds := [.data, .pinned], laidTests := true, laidLooks := .later }
def SampleDecidesUptoCardSaid : Prop := Claim7.holds Tryd.pinned (.plain (OpenSpec.upto sampleDecidesSpec)) sampleDecidesUptoCard

/-- THE SECOND FORM's CARD OF 'spoorlaw21.SampleOnto'. -/
def sampleOntoUptoCard : Claim7 := { stood := { row := sampleOntoUptoRow, standIns := [], harness := (true, "7631d723495a8bd18409fdcdf4864bbef60e793578dc15da218857241bbd4f93"), looks := false }, kinds := [], alts := [], laidByText := true, laidKinds := [.data, .pinned], laidTests := true, laidLooks := .later }
def SampleOntoUptoCardSaid : Prop := Claim7.holds Tryd.pinned (.plain (OpenSpec.upto sampleOntoSpec)) sampleOntoUptoCard

/-- THE SECOND FORM's CARD OF 'spoorlaw21.SampleWeighs'. -/
def sampleWeighsUptoCard : Claim7 := { stood := { row := sampleWeighsUptoRow, standIns := [], harness := (true, "7631d723495a8bd18409fdcdf4864bbef60e793578dc15da218857241bbd4f93"), looks := false }, kinds := [], alts := [], laidByText := true, laidKinds := [.data, .pinned], laidTests := true, laidLooks := .later }
def SampleWeighsUptoCardSaid : Prop := Claim7.holds Tryd.pinned (.plain (OpenSpec.upto sampleWeighsSpec)) sampleWeighsUptoCard

/-- THE SECOND FORM's CARD OF 'spoorlaw21.SampleGreater'. -/
def sampleGreaterUptoCard : Claim7 := { stood := { row := sampleGreaterUptoRow, standIns := [], harness := (true, "7631d723495a8bd18409fdcdf4864bbef60e793578dc15da218857241bbd4f93"), looks := false }, kinds := [], alts := [], laidByText := true, laidKinds := [.data, .pinned], laidTests := true, laidLooks := .later }
def SampleGreaterUptoCardSaid : Prop := Claim7.holds Tryd.pinned (.plain (OpenSpec.upto sampleGreaterSpec)) sampleGreaterUptoCard

/-- THE SECOND FORM's CARD OF 'spoorlaw21.SampleFews'. -/
def sampleFewsUptoCard : Claim7 := { stood := { row := sampleFewsUptoRow, standIns := [], harness := (true, "7631d723495a8bd18409fdcdf4864bbef60e793578dc15da218857241bbd4f93"), looks := false }, kinds := [], alts := [], laidByText := true, laidKinds := [.data, .pinned], laidTests := true, laidLooks := .later }
def SampleFewsUptoCardSaid : Prop := Claim7.holds Tryd.pinned (.plain (OpenSpec.upto sampleFewsSpec)) sampleFewsUptoCard

/-- THE SECOND FORM's CARD OF 'spoorlaw21.SampleFew'. -/
def sampleFewUptoCard : Claim7 := { stood := { row := sampleFewUptoRow, standIns := [], harness := (true, "7631d723495a8bd18409fdcdf4864bbef60e793578dc15da218857241bbd4f93"), looks := false }, kinds := [], alts := [], laidByText := true, laidKinds := [.data, .pinned], laidTests := true, laidLooks := .later }
def SampleFewUptoCardSaid : Prop := Claim7.holds Tryd.pinned (.plain (OpenSpec.upto sampleFewSpec)) sampleFewUptoCard
end Rows
end Go.Proofs.YtdlnfmakfnggpaaDoor
