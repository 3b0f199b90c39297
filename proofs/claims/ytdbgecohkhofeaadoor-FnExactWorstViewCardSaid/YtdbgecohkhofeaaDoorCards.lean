/-
  DERIVED. GIVEN WITH THE SEED: THE CARDS: each row of YtdbgecohkhofeaaDoorRows.lean that lists a variable, with what it lists TIED to the program's text (the seventh form; the later family's looks); each row that meets fmt, with fmt's text TOLD by the authors' own Lean function (tested against real Go, not proved from fmt's source: count such statements apart). THE CARD IS WHAT COUNTS. Prove the row's statement (the work); the ties are given (YtdbgecohkhofeaaDoorTie.lean); close each card by the builder's one call (the guide's Derived/Test/ToyasCard.lean, 'card_holds'). Laid BY PROGRAM, IN A SANDBOX (cutbox-door.mjs). By AI agents, Wed Nov 11 2026. No macro, syntax, notation, axiom, sorry.
-/
import Derived.Test.YtdbgecohkhofeaaDoorRows
import GoSem.ClaimSeven
namespace Go.Proofs.YtdbgecohkhofeaaDoor
namespace Rows

/-- THE TIED CARD OF 'laws.FnExactZoneShare'. -/
def fnExactZoneShareCard : Claim7 := { stood := { row := fnExactZoneShareRow, standIns := [], harness := (true, "fc22c7cf60cc4bb22dea592f9952a79c15ff0d2b22a687e2ebf93a93f5d2c595"), looks := false }, kinds := [], alts := [], laidByText := true, laidKinds := [.data], laidTests := true, laidLooks := .later }
def FnExactZoneShareCardSaid : Prop := Claim7.holds Tryd.pinned (.plain (OpenSpec.ofChange fnExactZoneShareSpec)) fnExactZoneShareCard

/-- THE TIED CARD OF 'laws.FnExactSpotOf'. -/
def fnExactSpotOfCard : Claim7 := { stood := { row := fnExactSpotOfRow, standIns := [], harness := (true, "fc22c7cf60cc4bb22dea592f9952a79c15ff0d2b22a687e2ebf93a93f5d2c595"), looks := false }, kinds := [], alts := [], laidByText := true, laidKinds := [.data], laidTests := true, laidLooks := .later }
def FnExactSpotOfCardSaid : Prop := Claim7.holds Tryd.pinned (.plain (OpenSpec.ofChange fnExactSpotOfSpec)) fnExactSpotOfCard

/-- THE TIED CARD OF 'laws.FnExactDomePoint'. -/
def fnExactDomePointCard : Claim7 := { stood := { row := fnExactDomePointRow, standIns := [], harness := (true, "fc22c7cf60cc4bb22dea592f9952a79c15ff0d2b22a687e2ebf93a93f5d2c595"), looks := false }, kinds := [], alts := [], laidByText := true, laidKinds := [.data], laidTests := true, laidLooks := .later }
def FnExactDomePointCardSaid : Prop := Claim7.holds Tryd.pinned (.plain (OpenSpec.ofChange fnExactDomePointSpec)) fnExactDomePointCard

/-- THE TIED CARD OF 'laws.FnExactDirectionAt'. -/
def fnExactDirectionAtCard : Claim7 := { stood := { row := fnExactDirectionAtRow, standIns := [], harness := (true, "fc22c7cf60cc4bb22dea592f9952a79c15ff0d2b22a687e2ebf93a93f5d2c595"), looks := false }, kinds := [], alts := [], laidByText := true, laidKinds := [.data], laidTests := true, laidLooks := .later }
def FnExactDirectionAtCardSaid : Prop := Claim7.holds Tryd.pinned (.plain (OpenSpec.ofChange fnExactDirectionAtSpec)) fnExactDirectionAtCard

/-- THE TIED CARD OF 'laws.FnExactArcOnDome'. -/
def fnExactArcOnDomeCard : Claim7 := { stood := { row := fnExactArcOnDomeRow, standIns := [], harness := (true, "fc22c7cf60cc4bb22dea592f9952a79c15ff0d2b22a687e2ebf93a93f5d2c595"), looks := false }, kinds := [], alts := [], laidByText := true, laidKinds := [.data], laidTests := true, laidLooks := .later }
def FnExactArcOnDomeCardSaid : Prop := Claim7.holds Tryd.pinned (.plain (OpenSpec.ofChange fnExactArcOnDomeSpec)) fnExactArcOnDomeCard

/-- THE TIED CARD OF 'laws.FnExactLevelDirection'. -/
def fnExactLevelDirectionCard : Claim7 := { stood := { row := fnExactLevelDirectionRow, standIns := [], harness := (true, "fc22c7cf60cc4bb22dea592f9952a79c15ff0d2b22a687e2ebf93a93f5d2c595"), looks := false }, kinds := [], alts := [], laidByText := true, laidKinds := [.data], laidTests := true, laidLooks := .later }
def FnExactLevelDirectionCardSaid : Prop := Claim7.holds Tryd.pinned (.plain (OpenSpec.ofChange fnExactLevelDirectionSpec)) fnExactLevelDirectionCard

/-- THE TIED CARD OF 'laws.FnExactTiltedDirection'. -/
def fnExactTiltedDirectionCard : Claim7 := { stood := { row := fnExactTiltedDirectionRow, standIns := [], harness := (true, "fc22c7cf60cc4bb22dea592f9952a79c15ff0d2b22a687e2ebf93a93f5d2c595"), looks := false }, kinds := [], alts := [], laidByText := true, laidKinds := [.data], laidTests := true, laidLooks := .later }
def FnExactTiltedDirectionCardSaid : Prop := Claim7.holds Tryd.pinned (.plain (OpenSpec.ofChange fnExactTiltedDirectionSpec)) fnExactTiltedDirectionCard

/-- THE TIED CARD OF 'laws.FnExactViewFrom'. -/
def fnExactViewFromCard : Claim7 := { stood := { row := fnExactViewFromRow, standIns := [], harness := (true, "fc22c7cf60cc4bb22dea592f9952a79c15ff0d2b22a687e2ebf93a93f5d2c595"), looks := false }, kinds := [], alts := [], laidByText := true, laidKinds := [.data], laidTests := true, laidLooks := .later }
def FnExactViewFromCardSaid : Prop := Claim7.holds Tryd.pinned (.plain (OpenSpec.ofChange fnExactViewFromSpec)) fnExactViewFromCard

/-- THE TIED CARD OF 'laws.FnExactWorstView'. -/
def fnExactWorstViewCard : Claim7 := { stood := { row := fnExactWorstViewRow, standIns := [], harness := (true, "fc22c7cf60cc4bb22dea592f9952a79c15ff0d2b22a687e2ebf93a93f5d2c595"), looks := false }, kinds := [], alts := [], laidByText := true, laidKinds := [.data], laidTests := true, laidLooks := .later }
def FnExactWorstViewCardSaid : Prop := Claim7.holds Tryd.pinned (.plain (OpenSpec.ofChange fnExactWorstViewSpec)) fnExactWorstViewCard

/-- THE SECOND FORM's CARD OF 'laws.FnExactZoneShare'. -/
def fnExactZoneShareUptoCard : Claim7 := { stood := { row := fnExactZoneShareUptoRow, standIns := [], harness := (true, "fc22c7cf60cc4bb22dea592f9952a79c15ff0d2b22a687e2ebf93a93f5d2c595"), looks := false }, kinds := [], alts := [], laidByText := true, laidKinds := [.data], laidTests := true, laidLooks := .later }
def FnExactZoneShareUptoCardSaid : Prop := Claim7.holds Tryd.pinned (.plain (OpenSpec.upto fnExactZoneShareSpec)) fnExactZoneShareUptoCard

/-- THE SECOND FORM's CARD OF 'laws.FnExactSpotOf'. -/
def fnExactSpotOfUptoCard : Claim7 := { stood := { row := fnExactSpotOfUptoRow, standIns := [], harness := (true, "fc22c7cf60cc4bb22dea592f9952a79c15ff0d2b22a687e2ebf93a93f5d2c595"), looks := false }, kinds := [], alts := [], laidByText := true, laidKinds := [.data], laidTests := true, laidLooks := .later }
def FnExactSpotOfUptoCardSaid : Prop := Claim7.holds Tryd.pinned (.plain (OpenSpec.upto fnExactSpotOfSpec)) fnExactSpotOfUptoCard

/-- THE SECOND FORM's CARD OF 'laws.FnExactDomePoint'. -/
def fnExactDomePointUptoCard : Claim7 := { stood := { row := fnExactDomePointUptoRow, standIns := [], harness := (true, "fc22c7cf60cc4bb22dea592f9952a79c15ff0d2b22a687e2ebf93a93f5d2c595"), looks := false }, kinds := [], alts := [], laidByText := true, laidKinds := [.data], laidTests := true, laidLooks := .later }
def FnExactDomePointUptoCardSaid : Prop := Claim7.holds Tryd.pinned (.plain (OpenSpec.upto fnExactDomePointSpec)) fnExactDomePointUptoCard

/-- THE SECOND FORM's CARD OF 'laws.FnExactDirectionAt'. -/
def fnExactDirectionAtUptoCard : Claim7 := { stood := { row := fnExactDirectionAtUptoRow, standIns := [], harness := (true, "fc22c7cf60cc4bb22dea592f9952a79c15ff0d2b22a687e2ebf93a93f5d2c595"), looks := false }, kinds := [], alts := [], laidByText := true, laidKinds := [.data], laidTests := true, laidLooks := .later }
def FnExactDirectionAtUptoCardSaid : Prop := Claim7.holds Tryd.pinned (.plain (OpenSpec.upto fnExactDirectionAtSpec)) fnExactDirectionAtUptoCard

/-- THE SECOND FORM's CARD OF 'laws.FnExactArcOnDome'. -/
def fnExactArcOnDomeUptoCard : Claim7 := { stood := { row := fnExactArcOnDomeUptoRow, standIns := [], harness := (true, "fc22c7cf60cc4bb22dea592f9952a79c15ff0d2b22a687e2ebf93a93f5d2c595"), looks := false }, kinds := [], alts := [], laidByText := true, laidKinds := [.data], laidTests := true, laidLooks := .later }
def FnExactArcOnDomeUptoCardSaid : Prop := Claim7.holds Tryd.pinned (.plain (OpenSpec.upto fnExactArcOnDomeSpec)) fnExactArcOnDomeUptoCard

/-- THE SECOND FORM's CARD OF 'laws.FnExactLevelDirection'. -/
def fnExactLevelDirectionUptoCard : Claim7 := { stood := { row := fnExactLevelDirectionUptoRow, standIns := [], harness := (true, "fc22c7cf60cc4bb22dea592f9952a79c15ff0d2b22a687e2ebf93a93f5d2c595"), looks := false }, kinds := [], alts := [], laidByText := true, laidKinds := [.data], laidTests := true, laidLooks := .later }
def FnExactLevelDirectionUptoCardSaid : Prop := Claim7.holds Tryd.pinned (.plain (OpenSpec.upto fnExactLevelDirectionSpec)) fnExactLevelDirectionUptoCard

/-- THE SECOND FORM's CARD OF 'laws.FnExactTiltedDirection'. -/
def fnExactTiltedDirectionUptoCard : Claim7 := { stood := { row := fnExactTiltedDirectionUptoRow, standIns := [], harness := (true, "fc22c7cf60cc4bb22dea592f9952a79c15ff0d2b22a687e2ebf93a93f5d2c595"), looks := false }, kinds := [], alts := [], laidByText := true, laidKinds := [.data], laidTests := true, laidLooks := .later }
def FnExactTiltedDirectionUptoCardSaid : Prop := Claim7.holds Tryd.pinned (.plain (OpenSpec.upto fnExactTiltedDirectionSpec)) fnExactTiltedDirectionUptoCard

/-- THE SECOND FORM's CARD OF 'laws.FnExactViewFrom'. -/
def fnExactViewFromUptoCard : Claim7 := { stood := { row := fnExactViewFromUptoRow, standIns := [], harness := (true, "fc22c7cf60cc4bb22dea592f9952a79c15ff0d2b22a687e2ebf93a93f5d2c595"), looks := false }, kinds := [], alts := [], laidByText := true, laidKinds := [.data], laidTests := true, laidLooks := .later }
def FnExactViewFromUptoCardSaid : Prop := Claim7.holds Tryd.pinned (.plain (OpenSpec.upto fnExactViewFromSpec)) fnExactViewFromUptoCard

/-- THE SECOND FORM's CARD OF 'laws.FnExactWorstView'. -/
def fnExactWorstViewUptoCard : Claim7 := { stood := { row := fnExactWorstViewUptoRow, standIns := [], harness := (true, "fc22c7cf60cc4bb22dea592f9952a79c15ff0d2b22a687e2ebf93a93f5d2c595"), looks := false }, kinds := [], alts := [], laidByText := true, laidKinds := [.data], laidTests := true, laidLooks := .later }
def FnExactWorstViewUptoCardSaid : Prop := Claim7.holds Tryd.pinned (.plain (OpenSpec.upto fnExactWorstViewSpec)) fnExactWorstViewUptoCard
end Rows
end Go.Proofs.YtdbgecohkhofeaaDoor
