/- FnExactFewestProjectors returns true at every input: the walk. No condition beyond those that every argument meets. -/
import Derived.Test.YthjllledhcfnhaaDoorFewSpecAll
import Derived.Test.YthjllledhcfnhaaDoorSProjector
import Derived.Deep.RegionHeld3
import Derived.Deep.DeepCutAuto
namespace Go.Proofs.YthjllledhcfnhaaDoor
open Go.RowKit Go.Lib Go.Ks
set_option linter.unusedVariables false
set_option maxRecDepth 100000 in
set_option maxHeartbeats 4000000 in
theorem lawFewestProjectors (A0 : Option Addr) (n0 c0 : Nat) (l0 : Nat → ProjectorD) (x1 : Int) (x2 : Int) (w : World) (b0 : n0 ≤ 9223372036854775807) (s0 : Sl w A0 (n0 * 5) (ProjectorC l0)) (g0 : ∀ k, k < n0 → ProjectorOk (l0 k)) (y1 : -9223372036854775808 ≤ x1 ∧ x1 ≤ 9223372036854775807) (y2 : -9223372036854775808 ≤ x2 ∧ x2 ≤ 9223372036854775807) (hT : Tab w) :
    Calls Tryd.prog 3 #[.slice A0 n0 c0, .int .i64 x1, .int .i64 x2] w fun e w' => e = .returned (.bool true) ∧ Below w.heap.size w w' := by
  have D0 := Below.refl w.heap.size w
  go_enter Tryd.func3, Tryd.ntmps3
  go_wp2_with fail
  refine (szProjectorS_any _ _ _ l0 _ b0 (by omega) (by omega) _ (s0.below D0) (fun q hq => (g0 q hq).1)).mono ?_
  rintro e w1 ⟨⟨r1, rfl, hr1⟩, H1⟩
  have D1 := D0.trans (H1.mono D0.size)
  have z1 := H1.size
  rcases hr1 with rfl | ⟨d1a, d1b, d1c⟩
  · go_wp2_with fail
    go_ret
    exact ⟨rfl, D1⟩
  have m0 : n0 ≤ 1048576 := by omega
  have mm := mFewestProjectors_len n0 l0 x1 x2
  go_wp2_with fail
  refine (toProjectorS_any A0 n0 c0 l0 _ m0 (s0.below D1)).mono ?_
  rintro e w2 ⟨rfl, H2, t2⟩
  have D2 := D1.trans (H2.mono D1.size)
  have z2 := H2.size
  have u0o2 := Own.blk (base := w1.heap.size) (size := 5) t2 (Nat.le_refl _) (Nat.le_refl (n0 * 5)) (fun _ _ => rfl)
  have u0U := u0o2.und
  have u0O := u0o2.over
  go_wp2_with fail
  refine (specFewestProjectors_any _ n0 _ l0 x1 x2 _ m0 u0o2.sl g0 y1 y2).mono ?_
  rintro e w3 ⟨⟨AW, cW, rfl, oW, iW⟩, H3⟩
  have D3 := D2.trans (H3.mono D2.size)
  have z3 := H3.size
  have u0o3 := u0o2.below H3
  have WU := oW.und
  have WO := oW.over
  go_wp2_with fail
  refine (toProjectorS_any A0 n0 c0 l0 _ m0 (s0.below D3)).mono ?_
  rintro e w4 ⟨rfl, H4, t4⟩
  have D4 := D3.trans (H4.mono D3.size)
  have z4 := H4.size
  have Wo4 := oW.below H4
  have x0o4 := Own.blk (base := w3.heap.size) (size := 5) t4 (Nat.le_refl _) (Nat.le_refl (n0 * 5)) (fun _ _ => rfl)
  have x0U := x0o4.und
  have x0O := x0o4.over
  go_wp2_with fail
  refine (implFewestProjectors_any _ n0 _ l0 x1 x2 _ m0 x0o4.sl g0 y1 y2 (hT.below D4)).mono ?_
  rintro e w5 ⟨⟨AG, cG, rfl, oG, iG⟩, H5⟩
  have D5 := D4.trans (H5.mono D4.size)
  have z5 := H5.size
  have Wo5 := Wo4.below H5
  have x0o5 := x0o4.below H5
  have GU := oG.und
  have GO := oG.over
  go_wp2_with fail
  refine (eqInt64S_yes _ _ (mFewestProjectorsN n0 l0 x1 x2) _ _ (mFewestProjectorsL n0 l0 x1 x2) _ (by omega) oG.sl Wo5.sl).mono ?_
  rintro e w6 ⟨rfl, H6⟩
  have D6 := D5.trans (H6.mono D5.size)
  have z6 := H6.size
  have Wo6 := Wo5.below H6
  have x0o6 := x0o5.below H6
  have Go6 := oG.below H6
  go_wp2_with fail
  refine (toProjectorS_any A0 n0 c0 l0 _ m0 (s0.below D6)).mono ?_
  rintro e w7 ⟨rfl, H7, t7⟩
  have D7 := D6.trans (H7.mono D6.size)
  have z7 := H7.size
  have Wo7 := Wo6.below H7
  have x0o7 := x0o6.below H7
  have Go7 := Go6.below H7
  have e0o7 := Own.blk (base := w6.heap.size) (size := 5) t7 (Nat.le_refl _) (Nat.le_refl (n0 * 5)) (fun _ _ => rfl)
  have e0U := e0o7.und
  have e0O := e0o7.over
  go_wp2_with fail
  refine (eqProjectorS_yes _ _ n0 _ _ l0 _ (by omega) x0o7.sl e0o7.sl).mono ?_
  rintro e w8 ⟨rfl, H8⟩
  have D8 := D7.trans (H8.mono D7.size)
  have z8 := H8.size
  have Wo8 := Wo7.below H8
  have x0o8 := x0o7.below H8
  have Go8 := Go7.below H8
  have e0o8 := e0o7.below H8
  go_wp2_with fail
  refine (markProjectorS_any _ _ n0 _ 1 (ProjectorC l0) _ (by omega) (by omega) (by omega) x0o8 (fun h => by cases h)).mono ?_
  rintro e w9 ⟨rfl, G9, x0o9⟩
  have z9 := G9.size
  have Wo9 := Wo8.kept (fun a b ha hb => by have h1 := WU a ha; have h2 := x0O b hb; omega) G9
  have Go9 := Go8.kept (fun a b ha hb => by have h1 := GO a ha; have h2 := x0U b hb; omega) G9
  have D9 := Below.only D8 (fun ad h => by have h1 := x0O ad h; omega) D8.size G9
  go_wp2_with fail
  refine (eqInt64S_yes _ _ (mFewestProjectorsN n0 l0 x1 x2) _ _ (mFewestProjectorsL n0 l0 x1 x2) _ (by omega) Go9.sl Wo9.sl).mono ?_
  rintro e w10 ⟨rfl, H10⟩
  have D10 := D9.trans (H10.mono D9.size)
  have z10 := H10.size
  have Wo10 := Wo9.below H10
  have x0o10 := x0o9.below H10
  have Go10 := Go9.below H10
  go_wp2_with fail
  refine (markInt64S_any _ _ (mFewestProjectorsN n0 l0 x1 x2) _ 1 (IntC (mFewestProjectorsL n0 l0 x1 x2)) _ (by omega) (by omega) (by omega) Go10 iG).mono ?_
  rintro e w11 ⟨rfl, G11, Go11⟩
  have z11 := G11.size
  have Wo11 := Wo10.kept (fun a b ha hb => by have h1 := WU a ha; have h2 := GO b hb; omega) G11
  have D11 := Below.only D10 (fun ad h => by have h1 := GO ad h; omega) D10.size G11
  go_wp2_with fail
  refine (heldInt64S_any _ (mFewestProjectorsN n0 l0 x1 x2) _ 1 (IntC (mFewestProjectorsL n0 l0 x1 x2)) _ (by omega) (by omega) (by omega) Go11.sl).mono ?_
  rintro e w12 ⟨rfl, H12⟩
  have D12 := D11.trans (H12.mono D11.size)
  have z12 := H12.size
  have Wo12 := Wo11.below H12
  have Go12 := Go11.below H12
  go_wp2_with fail
  refine (toProjectorS_any A0 n0 c0 l0 _ m0 (s0.below D12)).mono ?_
  rintro e w13 ⟨rfl, H13, t13⟩
  have D13 := D12.trans (H13.mono D12.size)
  have z13 := H13.size
  have Wo13 := Wo12.below H13
  have Go13 := Go12.below H13
  have u0o13 := Own.blk (base := w12.heap.size) (size := 5) t13 (Nat.le_refl _) (Nat.le_refl (n0 * 5)) (fun _ _ => rfl)
  have u0U := u0o13.und
  have u0O := u0o13.over
  go_wp2_with fail
  refine (implFewestProjectors_any _ n0 _ l0 x1 x2 _ m0 u0o13.sl g0 y1 y2 (hT.below D13)).mono ?_
  rintro e w14 ⟨⟨AH, cH, rfl, oH, iH⟩, H14⟩
  have D14 := D13.trans (H14.mono D13.size)
  have z14 := H14.size
  have Wo14 := Wo13.below H14
  have Go14 := Go13.below H14
  have u0o14 := u0o13.below H14
  have HU := oH.und
  have HO := oH.over
  go_wp2_with fail
  refine (eqInt64S_yes _ _ (mFewestProjectorsN n0 l0 x1 x2) _ _ (mFewestProjectorsL n0 l0 x1 x2) _ (by omega) oH.sl Wo14.sl).mono ?_
  rintro e w15 ⟨rfl, H15⟩
  have D15 := D14.trans (H15.mono D14.size)
  have z15 := H15.size
  have Wo15 := Wo14.below H15
  have Go15 := Go14.below H15
  have Ho15 := oH.below H15
  go_wp2_with fail
  refine (heldInt64S_any _ (mFewestProjectorsN n0 l0 x1 x2) _ 1 (IntC (mFewestProjectorsL n0 l0 x1 x2)) _ (by omega) (by omega) (by omega) Go15.sl).mono ?_
  rintro e w16 ⟨rfl, H16⟩
  have D16 := D15.trans (H16.mono D15.size)
  have z16 := H16.size
  have Wo16 := Wo15.below H16
  have Go16 := Go15.below H16
  have Ho16 := Ho15.below H16
  go_wp2_with fail
  go_ret
  exact ⟨rfl, D16⟩

end Go.Proofs.YthjllledhcfnhaaDoor
