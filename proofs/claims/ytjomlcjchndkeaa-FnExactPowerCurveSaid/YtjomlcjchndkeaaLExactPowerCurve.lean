/- FnExactPowerCurve returns true at every input: the walk. No condition beyond those that every argument meets. -/
import Derived.Test.YtjomlcjchndkeaaCurveMade
import Derived.Test.YtjomlcjchndkeaaSKnot
namespace Go.Proofs.Ytjomlcjchndkeaa
open Go.RowKit Go.Lib Go.Ks
set_option maxHeartbeats 2000000 in
theorem lawPowerCurve (x0 : Int) (w : World) (y0 : -9223372036854775808 ≤ x0 ∧ x0 ≤ 9223372036854775807) :
    Calls Try.prog 4 #[.int .i64 x0] w fun e w' => e = .returned (.bool true) ∧ Below w.heap.size w w' := by
  go_enter Try.func4, Try.ntmps4
  have mm := mPowerCurve_len x0
  go_wp2_with fail
  refine (specPowerCurve_any x0 _ y0).mono ?_
  rintro e w1 ⟨⟨AW, cW, rfl, oW, iW⟩, C1⟩
  have z1 := C1.size
  have B1 := (Below.refl w.heap.size w).trans (C1.mono (Below.refl w.heap.size w).size)
  have WU := oW.und
  have WO := oW.over
  go_wp2_with fail
  refine (implPowerCurve_any x0 _ y0).mono ?_
  rintro e w2 ⟨⟨AG, cG, rfl, oG, iG⟩, C2⟩
  have z2 := C2.size
  have Wo2 := oW.below C2
  have B2 := B1.trans (C2.mono B1.size)
  have GU := oG.und
  have GO := oG.over
  go_wp2_with fail
  refine (eqKnotS_yes _ _ _ _ _ (mPowerCurveL x0) _ (by omega) oG.sl Wo2.sl).mono ?_
  rintro e w3 ⟨rfl, C3⟩
  have z3 := C3.size
  have Wo3 := Wo2.below C3
  have Go3 := oG.below C3
  have B3 := B2.trans (C3.mono B2.size)
  go_wp2_with fail
  refine (markKnotS_any _ _ (mPowerCurveN x0) _ 1 (KnotC (mPowerCurveL x0)) _ (by omega) (by omega) (by omega) Go3 iG).mono ?_
  rintro e w4 ⟨rfl, C4, Go4⟩
  have z4 := C4.size
  have Wo4 := Wo3.kept (fun a b ha hb => by have h1 := WU a ha; have h2 := GO b hb; omega) C4
  have B4 := Below.only B3 (fun ad h => by have h1 := GO ad h; omega) B3.size C4
  go_wp2_with fail
  refine (heldKnotS_any _ (mPowerCurveN x0) _ 1 (KnotC (mPowerCurveL x0)) _ (by omega) (by omega) (by omega) Go4.sl).mono ?_
  rintro e w5 ⟨rfl, C5⟩
  have z5 := C5.size
  have Wo5 := Wo4.below C5
  have Go5 := Go4.below C5
  have B5 := B4.trans (C5.mono B4.size)
  go_wp2_with fail
  refine (implPowerCurve_any x0 _ y0).mono ?_
  rintro e w6 ⟨⟨AH, cH, rfl, oH, iH⟩, C6⟩
  have z6 := C6.size
  have Wo6 := Wo5.below C6
  have Go6 := Go5.below C6
  have B6 := B5.trans (C6.mono B5.size)
  have HU := oH.und
  have HO := oH.over
  go_wp2_with fail
  refine (eqKnotS_yes _ _ _ _ _ (mPowerCurveL x0) _ (by omega) oH.sl Wo6.sl).mono ?_
  rintro e w7 ⟨rfl, C7⟩
  have z7 := C7.size
  have Wo7 := Wo6.below C7
  have Go7 := Go6.below C7
  have Ho7 := oH.below C7
  have B7 := B6.trans (C7.mono B6.size)
  go_wp2_with fail
  refine (heldKnotS_any _ (mPowerCurveN x0) _ 1 (KnotC (mPowerCurveL x0)) _ (by omega) (by omega) (by omega) Go7.sl).mono ?_
  rintro e w8 ⟨rfl, C8⟩
  have z8 := C8.size
  have Go8 := Go7.below C8
  have B8 := B7.trans (C8.mono B7.size)
  go_wp2_with fail
  go_ret
  exact ⟨rfl, B8⟩

end Go.Proofs.Ytjomlcjchndkeaa
