/- FnExactReadCurve returns true at every input: the walk. No condition beyond those that every argument meets. -/
import Derived.Test.YtjomlcjchndkeaaDoorReadCurveI
import Derived.Test.YtjomlcjchndkeaaDoorSKnot
import Derived.Deep.RegionHeld3
import Derived.Deep.DeepCutAuto
namespace Go.Proofs.YtjomlcjchndkeaaDoor
open Go.RowKit Go.Lib Go.Ks
set_option linter.unusedVariables false
set_option maxRecDepth 100000 in
set_option maxHeartbeats 4000000 in
theorem lawReadCurve (x0 : ByteArray) (w : World) (z0 : x0.size ≤ 9223372036854775807) (hT : LibV w) :
    Calls Tryd.prog 4 #[.string x0] w fun e w' => e = .returned (.bool true) ∧ Below w.heap.size w w' := by
  have D0 := Below.refl w.heap.size w
  go_enter Tryd.func4, Tryd.ntmps4
  by_cases m0 : x0.size ≤ 1048576
  rotate_left
  · go_wp2_with fail
    go_ret
    exact ⟨rfl, D0⟩
  have mm := mReadCurve_len x0
  go_wp2_with fail
  refine (specReadCurve_any x0 _ m0).mono ?_
  rintro e w1 ⟨⟨AW, cW, rfl, oW, iW⟩, H1⟩
  have D1 := D0.trans (H1.mono D0.size)
  have z1 := H1.size
  have WU := oW.und
  have WO := oW.over
  go_wp2_with fail
  refine (implReadCurve_any x0 _ m0 (hT.below D1)).mono ?_
  rintro e w2 ⟨⟨AG, cG, rfl, oG, iG⟩, H2⟩
  have D2 := D1.trans (H2.mono D1.size)
  have z2 := H2.size
  have Wo2 := oW.below H2
  have GU := oG.und
  have GO := oG.over
  go_wp2_with fail
  refine (eqKnotS_yes _ _ (mReadCurveN x0) _ _ (mReadCurveL x0) _ (by omega) oG.sl Wo2.sl).mono ?_
  rintro e w3 ⟨rfl, H3⟩
  have D3 := D2.trans (H3.mono D2.size)
  have z3 := H3.size
  have Wo3 := Wo2.below H3
  have Go3 := oG.below H3
  go_wp2_with fail
  refine (markKnotS_any _ _ (mReadCurveN x0) _ 1 (KnotC (mReadCurveL x0)) _ (by omega) (by omega) (by omega) Go3 iG).mono ?_
  rintro e w4 ⟨rfl, G4, Go4⟩
  have z4 := G4.size
  have Wo4 := Wo3.kept (fun a b ha hb => by have h1 := WU a ha; have h2 := GO b hb; omega) G4
  have D4 := Below.only D3 (fun ad h => by have h1 := GO ad h; omega) D3.size G4
  go_wp2_with fail
  refine (heldKnotS_any _ (mReadCurveN x0) _ 1 (KnotC (mReadCurveL x0)) _ (by omega) (by omega) (by omega) Go4.sl).mono ?_
  rintro e w5 ⟨rfl, H5⟩
  have D5 := D4.trans (H5.mono D4.size)
  have z5 := H5.size
  have Wo5 := Wo4.below H5
  have Go5 := Go4.below H5
  go_wp2_with fail
  refine (implReadCurve_any x0 _ m0 (hT.below D5)).mono ?_
  rintro e w6 ⟨⟨AH, cH, rfl, oH, iH⟩, H6⟩
  have D6 := D5.trans (H6.mono D5.size)
  have z6 := H6.size
  have Wo6 := Wo5.below H6
  have Go6 := Go5.below H6
  have HU := oH.und
  have HO := oH.over
  go_wp2_with fail
  refine (eqKnotS_yes _ _ (mReadCurveN x0) _ _ (mReadCurveL x0) _ (by omega) oH.sl Wo6.sl).mono ?_
  rintro e w7 ⟨rfl, H7⟩
  have D7 := D6.trans (H7.mono D6.size)
  have z7 := H7.size
  have Wo7 := Wo6.below H7
  have Go7 := Go6.below H7
  have Ho7 := oH.below H7
  go_wp2_with fail
  refine (heldKnotS_any _ (mReadCurveN x0) _ 1 (KnotC (mReadCurveL x0)) _ (by omega) (by omega) (by omega) Go7.sl).mono ?_
  rintro e w8 ⟨rfl, H8⟩
  have D8 := D7.trans (H8.mono D7.size)
  have z8 := H8.size
  have Wo8 := Wo7.below H8
  have Go8 := Go7.below H8
  have Ho8 := Ho7.below H8
  go_wp2_with fail
  go_ret
  exact ⟨rfl, D8⟩

end Go.Proofs.YtjomlcjchndkeaaDoor
