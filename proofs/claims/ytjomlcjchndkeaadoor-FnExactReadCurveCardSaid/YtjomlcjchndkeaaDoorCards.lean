/-
  DERIVED. GIVEN WITH THE SEED: THE CARDS: each row of YtjomlcjchndkeaaDoorRows.lean that lists a variable, with what it lists TIED to the program's text (the seventh form; the later family's looks); each row that meets fmt, with fmt's text TOLD by the authors' own Lean function (tested against real Go, not proved from fmt's source: count such statements apart). THE CARD IS WHAT COUNTS. Prove the row's statement (the work); the ties are given (YtjomlcjchndkeaaDoorTie.lean); close each card by the builder's one call (the guide's Derived/Test/ToyasCard.lean, 'card_holds'). Laid BY PROGRAM, IN A SANDBOX (cutbox-door.mjs). By AI agents, Wed Nov 11 2026. No macro, syntax, notation, axiom, sorry.
-/
import Derived.Test.YtjomlcjchndkeaaDoorRows
import GoSem.ClaimSeven
namespace Go.Proofs.YtjomlcjchndkeaaDoor
namespace Rows

/-- THE TIED CARD OF 'laws.FnExactCurveText'. -/
def fnExactCurveTextCard : Claim7 := { stood := { row := fnExactCurveTextRow, standIns := [], harness := (true, "18b742890b9a8c22f5580c4623b1e1289df1606586ce9238bf3751692e137184"), looks := true }, kinds := [], alts := [], laidByText := true, laidKinds := [.data, .data, .data], laidTests := true, laidLooks := .later }
def FnExactCurveTextCardSaid : Prop := Claim7.holds Tryd.pinned (.plain (OpenSpec.ofChange fnExactCurveTextSpec)) fnExactCurveTextCard

/-- THE TIED CARD OF 'laws.FnExactReadCurve'. -/
def fnExactReadCurveCard : Claim7 := { stood := { row := fnExactReadCurveRow, standIns := [], harness := (true, "18b742890b9a8c22f5580c4623b1e1289df1606586ce9238bf3751692e137184"), looks := true }, kinds := [], alts := [], laidByText := true, laidKinds := [.data, .data, .data, .data, .sentinel, .sentinel, .pinned], laidTests := true, laidLooks := .later }
def FnExactReadCurveCardSaid : Prop := Claim7.holds Tryd.pinned (.plain (OpenSpec.ofChange fnExactReadCurveSpec)) fnExactReadCurveCard

/-- THE SECOND FORM's CARD OF 'laws.FnExactCurveText'. -/
def fnExactCurveTextUptoCard : Claim7 := { stood := { row := fnExactCurveTextUptoRow, standIns := [], harness := (true, "18b742890b9a8c22f5580c4623b1e1289df1606586ce9238bf3751692e137184"), looks := true }, kinds := [], alts := [], laidByText := true, laidKinds := [.data, .data, .data], laidTests := true, laidLooks := .later }
def FnExactCurveTextUptoCardSaid : Prop := Claim7.holds Tryd.pinned (.plain (OpenSpec.upto fnExactCurveTextSpec)) fnExactCurveTextUptoCard

/-- THE SECOND FORM's CARD OF 'laws.FnExactReadCurve'. -/
def fnExactReadCurveUptoCard : Claim7 := { stood := { row := fnExactReadCurveUptoRow, standIns := [], harness := (true, "18b742890b9a8c22f5580c4623b1e1289df1606586ce9238bf3751692e137184"), looks := true }, kinds := [], alts := [], laidByText := true, laidKinds := [.data, .data, .data, .data, .sentinel, .sentinel, .pinned], laidTests := true, laidLooks := .later }
def FnExactReadCurveUptoCardSaid : Prop := Claim7.holds Tryd.pinned (.plain (OpenSpec.upto fnExactReadCurveSpec)) fnExactReadCurveUptoCard
end Rows
end Go.Proofs.YtjomlcjchndkeaaDoor
