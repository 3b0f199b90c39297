/-
  DERIVED. GIVEN WITH THE SEED: THE CARDS: each row of YtkjnpnijplnoaaaDoorRows.lean that lists a variable, with what it lists TIED to the program's text (the seventh form; the later family's looks); each row that meets fmt, with fmt's text TOLD by the authors' own Lean function (tested against real Go, not proved from fmt's source: count such statements apart). THE CARD IS WHAT COUNTS. Prove the row's statement (the work); the ties are given (YtkjnpnijplnoaaaDoorTie.lean); close each card by the builder's one call (the guide's Derived/Test/ToyasCard.lean, 'card_holds'). Laid BY PROGRAM, IN A SANDBOX (cutbox-door.mjs). By AI agents, Wed Nov 11 2026. No macro, syntax, notation, axiom, sorry.
-/
import Derived.Test.YtkjnpnijplnoaaaDoorRows
import GoSem.ClaimSeven
namespace Go.Proofs.YtkjnpnijplnoaaaDoor
namespace Rows

/-- THE TIED CARD OF 'laws.FnExactRawWeight'. -/
def fnExactRawWeightCard : Claim7 := { stood := { row := fnExactRawWeightRow, standIns := [], harness := (true, "79f1bcb81ea1a52fcd5f22c1a19acf4dcba282585407754418cd6fb47ab3f6fe"), looks := false }, kinds := [], alts := [], laidByText := true, laidKinds := [.data], laidTests := true, laidLooks := .later }
def FnExactRawWeightCardSaid : Prop := Claim7.holds Tryd.pinned (.plain (OpenSpec.ofChange fnExactRawWeightSpec)) fnExactRawWeightCard

/-- THE TIED CARD OF 'laws.FnExactWeightsAt'. -/
def fnExactWeightsAtCard : Claim7 := { stood := { row := fnExactWeightsAtRow, standIns := [], harness := (true, "79f1bcb81ea1a52fcd5f22c1a19acf4dcba282585407754418cd6fb47ab3f6fe"), looks := false }, kinds := [], alts := [], laidByText := true, laidKinds := [.data], laidTests := true, laidLooks := .later }
def FnExactWeightsAtCardSaid : Prop := Claim7.holds Tryd.pinned (.plain (OpenSpec.ofChange fnExactWeightsAtSpec)) fnExactWeightsAtCard

/-- THE TIED CARD OF 'laws.FnExactBrightnessAt'. -/
def fnExactBrightnessAtCard : Claim7 := { stood := { row := fnExactBrightnessAtRow, standIns := [], harness := (true, "79f1bcb81ea1a52fcd5f22c1a19acf4dcba282585407754418cd6fb47ab3f6fe"), looks := false }, kinds := [], alts := [], laidByText := true, laidKinds := [.data], laidTests := true, laidLooks := .later }
def FnExactBrightnessAtCardSaid : Prop := Claim7.holds Tryd.pinned (.plain (OpenSpec.ofChange fnExactBrightnessAtSpec)) fnExactBrightnessAtCard

/-- THE TIED CARD OF 'laws.FnExactBlackAt'. -/
def fnExactBlackAtCard : Claim7 := { stood := { row := fnExactBlackAtRow, standIns := [], harness := (true, "79f1bcb81ea1a52fcd5f22c1a19acf4dcba282585407754418cd6fb47ab3f6fe"), looks := false }, kinds := [], alts := [], laidByText := true, laidKinds := [.data], laidTests := true, laidLooks := .later }
def FnExactBlackAtCardSaid : Prop := Claim7.holds Tryd.pinned (.plain (OpenSpec.ofChange fnExactBlackAtSpec)) fnExactBlackAtCard

/-- THE TIED CARD OF 'laws.FnExactUniformBlack'. -/
def fnExactUniformBlackCard : Claim7 := { stood := { row := fnExactUniformBlackRow, standIns := [], harness := (true, "79f1bcb81ea1a52fcd5f22c1a19acf4dcba282585407754418cd6fb47ab3f6fe"), looks := false }, kinds := [], alts := [], laidByText := true, laidKinds := [.data], laidTests := true, laidLooks := .later }
def FnExactUniformBlackCardSaid : Prop := Claim7.holds Tryd.pinned (.plain (OpenSpec.ofChange fnExactUniformBlackSpec)) fnExactUniformBlackCard

/-- THE TIED CARD OF 'laws.FnExactCoverageShare'. -/
def fnExactCoverageShareCard : Claim7 := { stood := { row := fnExactCoverageShareRow, standIns := [], harness := (true, "79f1bcb81ea1a52fcd5f22c1a19acf4dcba282585407754418cd6fb47ab3f6fe"), looks := false }, kinds := [], alts := [], laidByText := true, laidKinds := [.data], laidTests := true, laidLooks := .later }
def FnExactCoverageShareCardSaid : Prop := Claim7.holds Tryd.pinned (.plain (OpenSpec.ofChange fnExactCoverageShareSpec)) fnExactCoverageShareCard

/-- THE TIED CARD OF 'laws.FnExactOverlapShare'. -/
def fnExactOverlapShareCard : Claim7 := { stood := { row := fnExactOverlapShareRow, standIns := [], harness := (true, "79f1bcb81ea1a52fcd5f22c1a19acf4dcba282585407754418cd6fb47ab3f6fe"), looks := false }, kinds := [], alts := [], laidByText := true, laidKinds := [.data], laidTests := true, laidLooks := .later }
def FnExactOverlapShareCardSaid : Prop := Claim7.holds Tryd.pinned (.plain (OpenSpec.ofChange fnExactOverlapShareSpec)) fnExactOverlapShareCard

/-- THE TIED CARD OF 'laws.FnExactDarkSpots'. -/
def fnExactDarkSpotsCard : Claim7 := { stood := { row := fnExactDarkSpotsRow, standIns := [], harness := (true, "79f1bcb81ea1a52fcd5f22c1a19acf4dcba282585407754418cd6fb47ab3f6fe"), looks := false }, kinds := [], alts := [], laidByText := true, laidKinds := [.data], laidTests := true, laidLooks := .later }
def FnExactDarkSpotsCardSaid : Prop := Claim7.holds Tryd.pinned (.plain (OpenSpec.ofChange fnExactDarkSpotsSpec)) fnExactDarkSpotsCard

/-- THE TIED CARD OF 'laws.FnExactBrightnessRange'. -/
def fnExactBrightnessRangeCard : Claim7 := { stood := { row := fnExactBrightnessRangeRow, standIns := [], harness := (true, "79f1bcb81ea1a52fcd5f22c1a19acf4dcba282585407754418cd6fb47ab3f6fe"), looks := false }, kinds := [], alts := [], laidByText := true, laidKinds := [.data], laidTests := true, laidLooks := .later }
def FnExactBrightnessRangeCardSaid : Prop := Claim7.holds Tryd.pinned (.plain (OpenSpec.ofChange fnExactBrightnessRangeSpec)) fnExactBrightnessRangeCard

/-- THE TIED CARD OF 'laws.FnExactFewestProjectors'. -/
def fnExactFewestProjectorsCard : Claim7 := { stood := { row := fnExactFewestProjectorsRow, standIns := [], harness := (true, "79f1bcb81ea1a52fcd5f22c1a19acf4dcba282585407754418cd6fb47ab3f6fe"), looks := false }, kinds := [], alts := [], laidByText := true, laidKinds := [.data], laidTests := true, laidLooks := .later }
def FnExactFewestProjectorsCardSaid : Prop := Claim7.holds Tryd.pinned (.plain (OpenSpec.ofChange fnExactFewestProjectorsSpec)) fnExactFewestProjectorsCard

/-- THE TIED CARD OF 'laws.FnWeights'. -/
def fnWeightsCard : Claim7 := { stood := { row := fnWeightsRow, standIns := [], harness := (true, "79f1bcb81ea1a52fcd5f22c1a19acf4dcba282585407754418cd6fb47ab3f6fe"), looks := false }, kinds := [], alts := [], laidByText := true, laidKinds := [.data], laidTests := true, laidLooks := .later }
def FnWeightsCardSaid : Prop := Claim7.holds Tryd.pinned (.plain (OpenSpec.ofChange fnWeightsSpec)) fnWeightsCard

/-- THE TIED CARD OF 'laws.FnCoverage'. -/
def fnCoverageCard : Claim7 := { stood := { row := fnCoverageRow, standIns := [], harness := (true, "79f1bcb81ea1a52fcd5f22c1a19acf4dcba282585407754418cd6fb47ab3f6fe"), looks := false }, kinds := [], alts := [], laidByText := true, laidKinds := [.data], laidTests := true, laidLooks := .later }
def FnCoverageCardSaid : Prop := Claim7.holds Tryd.pinned (.plain (OpenSpec.ofChange fnCoverageSpec)) fnCoverageCard

/-- THE SECOND FORM's CARD OF 'laws.FnExactRawWeight'. -/
def fnExactRawWeightUptoCard : Claim7 := { stood := { row := fnExactRawWeightUptoRow, standIns := [], harness := (true, "79f1bcb81ea1a52fcd5f22c1a19acf4dcba282585407754418cd6fb47ab3f6fe"), looks := false }, kinds := [], alts := [], laidByText := true, laidKinds := [.data], laidTests := true, laidLooks := .later }
def FnExactRawWeightUptoCardSaid : Prop := Claim7.holds Tryd.pinned (.plain (OpenSpec.upto fnExactRawWeightSpec)) fnExactRawWeightUptoCard

/-- THE SECOND FORM's CARD OF 'laws.FnExactWeightsAt'. -/
def fnExactWeightsAtUptoCard : Claim7 := { stood := { row := fnExactWeightsAtUptoRow, standIns := [], harness := (true, "79f1bcb81ea1a52fcd5f22c1a19acf4dcba282585407754418cd6fb47ab3f6fe"), looks := false }, kinds := [], alts := [], laidByText := true, laidKinds := [.data], laidTests := true, laidLooks := .later }
def FnExactWeightsAtUptoCardSaid : Prop := Claim7.holds Tryd.pinned (.plain (OpenSpec.upto fnExactWeightsAtSpec)) fnExactWeightsAtUptoCard

/-- THE SECOND FORM's CARD OF 'laws.FnExactBrightnessAt'. -/
def fnExactBrightnessAtUptoCard : Claim7 := { stood := { row := fnExactBrightnessAtUptoRow, standIns := [], harness := (true, "79f1bcb81ea1a52fcd5f22c1a19acf4dcba282585407754418cd6fb47ab3f6fe"), looks := false }, kinds := [], alts := [], laidByText := true, laidKinds := [.data], laidTests := true, laidLooks := .later }
def FnExactBrightnessAtUptoCardSaid : Prop := Claim7.holds Tryd.pinned (.plain (OpenSpec.upto fnExactBrightnessAtSpec)) fnExactBrightnessAtUptoCard

/-- THE SECOND FORM's CARD OF 'laws.FnExactBlackAt'. -/
def fnExactBlackAtUptoCard : Claim7 := { stood := { row := fnExactBlackAtUptoRow, standIns := [], harness := (true, "79f1bcb81ea1a52fcd5f22c1a19acf4dcba282585407754418cd6fb47ab3f6fe"), looks := false }, kinds := [], alts := [], laidByText := true, laidKinds := [.data], laidTests := true, laidLooks := .later }
def FnExactBlackAtUptoCardSaid : Prop := Claim7.holds Tryd.pinned (.plain (OpenSpec.upto fnExactBlackAtSpec)) fnExactBlackAtUptoCard

/-- THE SECOND FORM's CARD OF 'laws.FnExactUniformBlack'. -/
def fnExactUniformBlackUptoCard : Claim7 := { stood := { row := fnExactUniformBlackUptoRow, standIns := [], harness := (true, "79f1bcb81ea1a52fcd5f22c1a19acf4dcba282585407754418cd6fb47ab3f6fe"), looks := false }, kinds := [], alts := [], laidByText := true, laidKinds := [.data], laidTests := true, laidLooks := .later }
def FnExactUniformBlackUptoCardSaid : Prop := Claim7.holds Tryd.pinned (.plain (OpenSpec.upto fnExactUniformBlackSpec)) fnExactUniformBlackUptoCard

/-- THE SECOND FORM's CARD OF 'laws.FnExactCoverageShare'. -/
def fnExactCoverageShareUptoCard : Claim7 := { stood := { row := fnExactCoverageShareUptoRow, standIns := [], harness := (true, "79f1bcb81ea1a52fcd5f22c1a19acf4dcba282585407754418cd6fb47ab3f6fe"), looks := false }, kinds := [], alts := [], laidByText := true, laidKinds := [.data], laidTests := true, laidLooks := .later }
def FnExactCoverageShareUptoCardSaid : Prop := Claim7.holds Tryd.pinned (.plain (OpenSpec.upto fnExactCoverageShareSpec)) fnExactCoverageShareUptoCard

/-- THE SECOND FORM's CARD OF 'laws.FnExactOverlapShare'. -/
def fnExactOverlapShareUptoCard : Claim7 := { stood := { row := fnExactOverlapShareUptoRow, standIns := [], harness := (true, "79f1bcb81ea1a52fcd5f22c1a19acf4dcba282585407754418cd6fb47ab3f6fe"), looks := false }, kinds := [], alts := [], laidByText := true, laidKinds := [.data], laidTests := true, laidLooks := .later }
def FnExactOverlapShareUptoCardSaid : Prop := Claim7.holds Tryd.pinned (.plain (OpenSpec.upto fnExactOverlapShareSpec)) fnExactOverlapShareUptoCard

/-- THE SECOND FORM's CARD OF 'laws.FnExactDarkSpots'. -/
def fnExactDarkSpotsUptoCard : Claim7 := { stood := { row := fnExactDarkSpotsUptoRow, standIns := [], harness := (true, "79f1bcb81ea1a52fcd5f22c1a19acf4dcba282585407754418cd6fb47ab3f6fe"), looks := false }, kinds := [], alts := [], laidByText := true, laidKinds := [.data], laidTests := true, laidLooks := .later }
def FnExactDarkSpotsUptoCardSaid : Prop := Claim7.holds Tryd.pinned (.plain (OpenSpec.upto fnExactDarkSpotsSpec)) fnExactDarkSpotsUptoCard

/-- THE SECOND FORM's CARD OF 'laws.FnExactBrightnessRange'. -/
def fnExactBrightnessRangeUptoCard : Claim7 := { stood := { row := fnExactBrightnessRangeUptoRow, standIns := [], harness := (true, "79f1bcb81ea1a52fcd5f22c1a19acf4dcba282585407754418cd6fb47ab3f6fe"), looks := false }, kinds := [], alts := [], laidByText := true, laidKinds := [.data], laidTests := true, laidLooks := .later }
def FnExactBrightnessRangeUptoCardSaid : Prop := Claim7.holds Tryd.pinned (.plain (OpenSpec.upto fnExactBrightnessRangeSpec)) fnExactBrightnessRangeUptoCard

/-- THE SECOND FORM's CARD OF 'laws.FnExactFewestProjectors'. -/
def fnExactFewestProjectorsUptoCard : Claim7 := { stood := { row := fnExactFewestProjectorsUptoRow, standIns := [], harness := (true, "79f1bcb81ea1a52fcd5f22c1a19acf4dcba282585407754418cd6fb47ab3f6fe"), looks := false }, kinds := [], alts := [], laidByText := true, laidKinds := [.data], laidTests := true, laidLooks := .later }
def FnExactFewestProjectorsUptoCardSaid : Prop := Claim7.holds Tryd.pinned (.plain (OpenSpec.upto fnExactFewestProjectorsSpec)) fnExactFewestProjectorsUptoCard

/-- THE SECOND FORM's CARD OF 'laws.FnWeights'. -/
def fnWeightsUptoCard : Claim7 := { stood := { row := fnWeightsUptoRow, standIns := [], harness := (true, "79f1bcb81ea1a52fcd5f22c1a19acf4dcba282585407754418cd6fb47ab3f6fe"), looks := false }, kinds := [], alts := [], laidByText := true, laidKinds := [.data], laidTests := true, laidLooks := .later }
def FnWeightsUptoCardSaid : Prop := Claim7.holds Tryd.pinned (.plain (OpenSpec.upto fnWeightsSpec)) fnWeightsUptoCard

/-- THE SECOND FORM's CARD OF 'laws.FnCoverage'. -/
def fnCoverageUptoCard : Claim7 := { stood := { row := fnCoverageUptoRow, standIns := [], harness := (true, "79f1bcb81ea1a52fcd5f22c1a19acf4dcba282585407754418cd6fb47ab3f6fe"), looks := false }, kinds := [], alts := [], laidByText := true, laidKinds := [.data], laidTests := true, laidLooks := .later }
def FnCoverageUptoCardSaid : Prop := Claim7.holds Tryd.pinned (.plain (OpenSpec.upto fnCoverageSpec)) fnCoverageUptoCard
end Rows
end Go.Proofs.YtkjnpnijplnoaaaDoor
