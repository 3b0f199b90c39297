/-
  DERIVED. GIVEN WITH THE SEED: THE CARDS: each row of YtikonccofaiceaaDoorRows.lean that lists a variable, with what it lists TIED to the program's text (the seventh form; the later family's looks); each row that meets fmt, with fmt's text TOLD by the authors' own Lean function (tested against real Go, not proved from fmt's source: count such statements apart). THE CARD IS WHAT COUNTS. Prove the row's statement (the work); the ties are given (YtikonccofaiceaaDoorTie.lean); close each card by the builder's one call (the guide's Derived/Test/ToyasCard.lean, 'card_holds'). Laid BY PROGRAM, IN A SANDBOX (cutbox-door.mjs). By AI agents, Wed Nov 11 2026. No macro, syntax, notation, axiom, sorry.
-/
import Derived.Test.YtikonccofaiceaaDoorRows
import GoSem.ClaimSeven
namespace Go.Proofs.YtikonccofaiceaaDoor
namespace Rows

/-- THE TIED CARD OF 'laws.FnExactMeshText'. -/
def fnExactMeshTextCard : Claim7 := { stood := { row := fnExactMeshTextRow, standIns := [], harness := (true, "54c58bf759c86f85816ad81b0eb65fdcfcbcfa46993838e63afdbd3a81f747ae"), looks := true }, kinds := [], alts := [], laidByText := true, laidKinds := [.data, .data, .data], laidTests := true, laidLooks := .later }
def FnExactMeshTextCardSaid : Prop := Claim7.holds Tryd.pinned (.plain (OpenSpec.ofChange fnExactMeshTextSpec)) fnExactMeshTextCard

/-- THE TIED CARD OF 'laws.FnExactReadMesh'. -/
def fnExactReadMeshCard : Claim7 := { stood := { row := fnExactReadMeshRow, standIns := [], harness := (true, "54c58bf759c86f85816ad81b0eb65fdcfcbcfa46993838e63afdbd3a81f747ae"), looks := true }, kinds := [], alts := [], laidByText := true, laidKinds := [.data, .data, .data, .data, .sentinel, .sentinel, .pinned], laidTests := true, laidLooks := .later }
def FnExactReadMeshCardSaid : Prop := Claim7.holds Tryd.pinned (.plain (OpenSpec.ofChange fnExactReadMeshSpec)) fnExactReadMeshCard

/-- THE TIED CARD OF 'laws.FnMeshes'. -/
def fnMeshesCard : Claim7 := { stood := { row := fnMeshesRow, standIns := [], harness := (true, "54c58bf759c86f85816ad81b0eb65fdcfcbcfa46993838e63afdbd3a81f747ae"), looks := true }, kinds := [], alts := [], laidByText := true, laidKinds := [.data, .data, .data, .data, .sentinel, .sentinel, .pinned], laidTests := true, laidLooks := .later }
def FnMeshesCardSaid : Prop := Claim7.holds Tryd.pinned (.plain (OpenSpec.ofChange fnMeshesSpec)) fnMeshesCard

/-- THE TIED CARD OF 'laws.FnExactProjectorText'. -/
def fnExactProjectorTextCard : Claim7 := { stood := { row := fnExactProjectorTextRow, standIns := [], harness := (true, "54c58bf759c86f85816ad81b0eb65fdcfcbcfa46993838e63afdbd3a81f747ae"), looks := true }, kinds := [], alts := [], laidByText := true, laidKinds := [.data, .data, .data], laidTests := true, laidLooks := .later }
def FnExactProjectorTextCardSaid : Prop := Claim7.holds Tryd.pinned (.plain (OpenSpec.ofChange fnExactProjectorTextSpec)) fnExactProjectorTextCard

/-- THE TIED CARD OF 'laws.FnExactDomeText'. -/
def fnExactDomeTextCard : Claim7 := { stood := { row := fnExactDomeTextRow, standIns := [], harness := (true, "54c58bf759c86f85816ad81b0eb65fdcfcbcfa46993838e63afdbd3a81f747ae"), looks := true }, kinds := [], alts := [], laidByText := true, laidKinds := [.data, .data, .data], laidTests := true, laidLooks := .later }
def FnExactDomeTextCardSaid : Prop := Claim7.holds Tryd.pinned (.plain (OpenSpec.ofChange fnExactDomeTextSpec)) fnExactDomeTextCard

/-- THE TIED CARD OF 'laws.FnExactReadDome'. -/
def fnExactReadDomeCard : Claim7 := { stood := { row := fnExactReadDomeRow, standIns := [], harness := (true, "54c58bf759c86f85816ad81b0eb65fdcfcbcfa46993838e63afdbd3a81f747ae"), looks := true }, kinds := [], alts := [], laidByText := true, laidKinds := [.data, .data, .data, .data, .sentinel, .sentinel, .pinned], laidTests := true, laidLooks := .later }
def FnExactReadDomeCardSaid : Prop := Claim7.holds Tryd.pinned (.plain (OpenSpec.ofChange fnExactReadDomeSpec)) fnExactReadDomeCard

/-- THE TIED CARD OF 'laws.FnExactReadProjector'. -/
def fnExactReadProjectorCard : Claim7 := { stood := { row := fnExactReadProjectorRow, standIns := [], harness := (true, "54c58bf759c86f85816ad81b0eb65fdcfcbcfa46993838e63afdbd3a81f747ae"), looks := true }, kinds := [], alts := [], laidByText := true, laidKinds := [.data, .data, .data, .data, .sentinel, .sentinel, .pinned], laidTests := true, laidLooks := .later }
def FnExactReadProjectorCardSaid : Prop := Claim7.holds Tryd.pinned (.plain (OpenSpec.ofChange fnExactReadProjectorSpec)) fnExactReadProjectorCard

/-- THE SECOND FORM's CARD OF 'laws.FnExactMeshText'. -/
def fnExactMeshTextUptoCard : Claim7 := { stood := { row := fnExactMeshTextUptoRow, standIns := [], harness := (true, "54c58bf759c86f85816ad81b0eb65fdcfcbcfa46993838e63afdbd3a81f747ae"), looks := true }, kinds := [], alts := [], laidByText := true, laidKinds := [.data, .data, .data], laidTests := true, laidLooks := .later }
def FnExactMeshTextUptoCardSaid : Prop := Claim7.holds Tryd.pinned (.plain (OpenSpec.upto fnExactMeshTextSpec)) fnExactMeshTextUptoCard

/-- THE SECOND FORM's CARD OF 'laws.FnExactReadMesh'. -/
def fnExactReadMeshUptoCard : Claim7 := { stood := { row := fnExactReadMeshUptoRow, standIns := [], harness := (true, "54c58bf759c86f85816ad81b0eb65fdcfcbcfa46993838e63afdbd3a81f747ae"), looks := true }, kinds := [], alts := [], laidByText := true, laidKinds := [.data, .data, .data, .data, .sentinel, .sentinel, .pinned], laidTests := true, laidLooks := .later }
def FnExactReadMeshUptoCardSaid : Prop := Claim7.holds Tryd.pinned (.plain (OpenSpec.upto fnExactReadMeshSpec)) fnExactReadMeshUptoCard

/-- THE SECOND FORM's CARD OF 'laws.FnMeshes'. -/
def fnMeshesUptoCard : Claim7 := { stood := { row := fnMeshesUptoRow, standIns := [], harness := (true, "54c58bf759c86f85816ad81b0eb65fdcfcbcfa46993838e63afdbd3a81f747ae"), looks := true }, kinds := [], alts := [], laidByText := true, laidKinds := [.data, .data, .data, .data, .sentinel, .sentinel, .pinned], laidTests := true, laidLooks := .later }
def FnMeshesUptoCardSaid : Prop := Claim7.holds Tryd.pinned (.plain (OpenSpec.upto fnMeshesSpec)) fnMeshesUptoCard

/-- THE SECOND FORM's CARD OF 'laws.FnExactProjectorText'. -/
def fnExactProjectorTextUptoCard : Claim7 := { stood := { row := fnExactProjectorTextUptoRow, standIns := [], harness := (true, "54c58bf759c86f85816ad81b0eb65fdcfcbcfa46993838e63afdbd3a81f747ae"), looks := true }, kinds := [], alts := [], laidByText := true, laidKinds := [.data, .data, .data], laidTests := true, laidLooks := .later }
def FnExactProjectorTextUptoCardSaid : Prop := Claim7.holds Tryd.pinned (.plain (OpenSpec.upto fnExactProjectorTextSpec)) fnExactProjectorTextUptoCard

/-- THE SECOND FORM's CARD OF 'laws.FnExactDomeText'. -/
def fnExactDomeTextUptoCard : Claim7 := { stood := { row := fnExactDomeTextUptoRow, standIns := [], harness := (true, "54c58bf759c86f85816ad81b0eb65fdcfcbcfa46993838e63afdbd3a81f747ae"), looks := true }, kinds := [], alts := [], laidByText := true, laidKinds := [.data, .data, .data], laidTests := true, laidLooks := .later }
def FnExactDomeTextUptoCardSaid : Prop := Claim7.holds Tryd.pinned (.plain (OpenSpec.upto fnExactDomeTextSpec)) fnExactDomeTextUptoCard

/-- THE SECOND FORM's CARD OF 'laws.FnExactReadDome'. -/
def fnExactReadDomeUptoCard : Claim7 := { stood := { row := fnExactReadDomeUptoRow, standIns := [], harness := (true, "54c58bf759c86f85816ad81b0eb65fdcfcbcfa46993838e63afdbd3a81f747ae"), looks := true }, kinds := [], alts := [], laidByText := true, laidKinds := [.data, .data, .data, .data, .sentinel, .sentinel, .pinned], laidTests := true, laidLooks := .later }
def FnExactReadDomeUptoCardSaid : Prop := Claim7.holds Tryd.pinned (.plain (OpenSpec.upto fnExactReadDomeSpec)) fnExactReadDomeUptoCard

/-- THE SECOND FORM's CARD OF 'laws.FnExactReadProjector'. -/
def fnExactReadProjectorUptoCard : Claim7 := { stood := { row := fnExactReadProjectorUptoRow, standIns := [], harness := (true, "54c58bf759c86f85816ad81b0eb65fdcfcbcfa46993838e63afdbd3a81f747ae"), looks := true }, kinds := [], alts := [], laidByText := true, laidKinds := [.data, .data, .data, .data, .sentinel, .sentinel, .pinned], laidTests := true, laidLooks := .later }
def FnExactReadProjectorUptoCardSaid : Prop := Claim7.holds Tryd.pinned (.plain (OpenSpec.upto fnExactReadProjectorSpec)) fnExactReadProjectorUptoCard
end Rows
end Go.Proofs.YtikonccofaiceaaDoor
