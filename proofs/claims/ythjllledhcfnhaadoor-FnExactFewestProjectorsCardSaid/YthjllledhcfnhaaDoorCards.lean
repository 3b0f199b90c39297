/-
  DERIVED. GIVEN WITH THE SEED: THE CARDS: each row of YthjllledhcfnhaaDoorRows.lean that lists a variable, with what it lists TIED to the program's text (the seventh form; the later family's looks); each row that meets fmt, with fmt's text TOLD by the authors' own Lean function (tested against real Go, not proved from fmt's source: count such statements apart). THE CARD IS WHAT COUNTS. Prove the row's statement (the work); the ties are given (YthjllledhcfnhaaDoorTie.lean); close each card by the builder's one call (the guide's Derived/Test/ToyasCard.lean, 'card_holds'). Laid BY PROGRAM, IN A SANDBOX (cutbox-door.mjs). By AI agents, Wed Nov 11 2026. No macro, syntax, notation, axiom, sorry.
-/
import Derived.Test.YthjllledhcfnhaaDoorRows
import GoSem.ClaimSeven
namespace Go.Proofs.YthjllledhcfnhaaDoor
namespace Rows

/-- THE TIED CARD OF 'laws.FnExactFewestProjectors'. -/
def fnExactFewestProjectorsCard : Claim7 := { stood := { row := fnExactFewestProjectorsRow, standIns := [], harness := (true, "48f408a8388de9c9087dae9f2fd3acbfee9ce60468a7b09b9d336ab8d33415ea"), looks := true }, kinds := [], alts := [], laidByText := true, laidKinds := [.data], laidTests := true, laidLooks := .later }
def FnExactFewestProjectorsCardSaid : Prop := Claim7.holds Tryd.pinned (.plain (OpenSpec.ofChange fnExactFewestProjectorsSpec)) fnExactFewestProjectorsCard

/-- THE TIED CARD OF 'laws.FnWeights'. -/
def fnWeightsCard : Claim7 := { stood := { row := fnWeightsRow, standIns := [], harness := (true, "48f408a8388de9c9087dae9f2fd3acbfee9ce60468a7b09b9d336ab8d33415ea"), looks := true }, kinds := [], alts := [], laidByText := true, laidKinds := [.data], laidTests := true, laidLooks := .later }
def FnWeightsCardSaid : Prop := Claim7.holds Tryd.pinned (.plain (OpenSpec.ofChange fnWeightsSpec)) fnWeightsCard

/-- THE TIED CARD OF 'laws.FnCoverage'. -/
def fnCoverageCard : Claim7 := { stood := { row := fnCoverageRow, standIns := [], harness := (true, "48f408a8388de9c9087dae9f2fd3acbfee9ce60468a7b09b9d336ab8d33415ea"), looks := true }, kinds := [], alts := [], laidByText := true, laidKinds := [.data], laidTests := true, laidLooks := .later }
def FnCoverageCardSaid : Prop := Claim7.holds Tryd.pinned (.plain (OpenSpec.ofChange fnCoverageSpec)) fnCoverageCard

/-- THE TIED CARD OF 'laws.FnViews'. -/
def fnViewsCard : Claim7 := { stood := { row := fnViewsRow, standIns := [], harness := (true, "48f408a8388de9c9087dae9f2fd3acbfee9ce60468a7b09b9d336ab8d33415ea"), looks := true }, kinds := [], alts := [], laidByText := true, laidKinds := [.data], laidTests := true, laidLooks := .later }
def FnViewsCardSaid : Prop := Claim7.holds Tryd.pinned (.plain (OpenSpec.ofChange fnViewsSpec)) fnViewsCard

/-- THE TIED CARD OF 'laws.FnMeshes'. -/
def fnMeshesCard : Claim7 := { stood := { row := fnMeshesRow, standIns := [], harness := (true, "48f408a8388de9c9087dae9f2fd3acbfee9ce60468a7b09b9d336ab8d33415ea"), looks := true }, kinds := [], alts := [], laidByText := true, laidKinds := [.data, .data, .data, .data, .sentinel, .sentinel, .pinned], laidTests := true, laidLooks := .later }
def FnMeshesCardSaid : Prop := Claim7.holds Tryd.pinned (.plain (OpenSpec.ofChange fnMeshesSpec)) fnMeshesCard

/-- THE SECOND FORM's CARD OF 'laws.FnExactFewestProjectors'. -/
def fnExactFewestProjectorsUptoCard : Claim7 := { stood := { row := fnExactFewestProjectorsUptoRow, standIns := [], harness := (true, "48f408a8388de9c9087dae9f2fd3acbfee9ce60468a7b09b9d336ab8d33415ea"), looks := true }, kinds := [], alts := [], laidByText := true, laidKinds := [.data], laidTests := true, laidLooks := .later }
def FnExactFewestProjectorsUptoCardSaid : Prop := Claim7.holds Tryd.pinned (.plain (OpenSpec.upto fnExactFewestProjectorsSpec)) fnExactFewestProjectorsUptoCard

/-- THE SECOND FORM's CARD OF 'laws.FnWeights'. -/
def fnWeightsUptoCard : Claim7 := { stood := { row := fnWeightsUptoRow, standIns := [], harness := (true, "48f408a8388de9c9087dae9f2fd3acbfee9ce60468a7b09b9d336ab8d33415ea"), looks := true }, kinds := [], alts := [], laidByText := true, laidKinds := [.data], laidTests := true, laidLooks := .later }
def FnWeightsUptoCardSaid : Prop := Claim7.holds Tryd.pinned (.plain (OpenSpec.upto fnWeightsSpec)) fnWeightsUptoCard

/-- THE SECOND FORM's CARD OF 'laws.FnCoverage'. -/
def fnCoverageUptoCard : Claim7 := { stood := { row := fnCoverageUptoRow, standIns := [], harness := (true, "48f408a8388de9c9087dae9f2fd3acbfee9ce60468a7b09b9d336ab8d33415ea"), looks := true }, kinds := [], alts := [], laidByText := true, laidKinds := [.data], laidTests := true, laidLooks := .later }
def FnCoverageUptoCardSaid : Prop := Claim7.holds Tryd.pinned (.plain (OpenSpec.upto fnCoverageSpec)) fnCoverageUptoCard

/-- THE SECOND FORM's CARD OF 'laws.FnViews'. -/
def fnViewsUptoCard : Claim7 := { stood := { row := fnViewsUptoRow, standIns := [], harness := (true, "48f408a8388de9c9087dae9f2fd3acbfee9ce60468a7b09b9d336ab8d33415ea"), looks := true }, kinds := [], alts := [], laidByText := true, laidKinds := [.data], laidTests := true, laidLooks := .later }
def FnViewsUptoCardSaid : Prop := Claim7.holds Tryd.pinned (.plain (OpenSpec.upto fnViewsSpec)) fnViewsUptoCard

/-- THE SECOND FORM's CARD OF 'laws.FnMeshes'. -/
def fnMeshesUptoCard : Claim7 := { stood := { row := fnMeshesUptoRow, standIns := [], harness := (true, "48f408a8388de9c9087dae9f2fd3acbfee9ce60468a7b09b9d336ab8d33415ea"), looks := true }, kinds := [], alts := [], laidByText := true, laidKinds := [.data, .data, .data, .data, .sentinel, .sentinel, .pinned], laidTests := true, laidLooks := .later }
def FnMeshesUptoCardSaid : Prop := Claim7.holds Tryd.pinned (.plain (OpenSpec.upto fnMeshesSpec)) fnMeshesUptoCard
end Rows
end Go.Proofs.YthjllledhcfnhaaDoor
