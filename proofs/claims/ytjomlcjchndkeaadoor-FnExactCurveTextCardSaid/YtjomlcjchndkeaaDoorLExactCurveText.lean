/- FnExactCurveText returns true at every input: the walk. No condition beyond those that every argument meets. -/
import Derived.Test.YtjomlcjchndkeaaDoorCurveText
import Derived.Test.YtjomlcjchndkeaaDoorSKnot
import Derived.Deep.RegionHeld3
import Derived.Deep.DeepCutAuto
namespace Go.Proofs.YtjomlcjchndkeaaDoor
open Go.RowKit Go.Lib Go.Ks
set_option linter.unusedVariables false
set_option maxRecDepth 100000 in
set_option maxHeartbeats 4000000 in
theorem lawCurveText (A0 : Option Addr) (n0 c0 : Nat) (l0 : Nat → KnotD) (w : World) (b0 : n0 ≤ 9223372036854775807) (s0 : Sl w A0 (n0 * 2) (KnotC l0)) (g0 : ∀ k, k < n0 → KnotOk (l0 k)) (hT : Tab w) :
    Calls Tryd.prog 3 #[.slice A0 n0 c0] w fun e w' => e = .returned (.bool true) ∧ Below w.heap.size w w' := by
  have D0 := Below.refl w.heap.size w
  go_enter Tryd.func3, Tryd.ntmps3
  go_wp2_with fail
  refine (szKnotS_any _ _ _ _ b0 (by omega) (by omega) _).mono ?_
  rintro e w1 ⟨⟨r1, rfl, hr1⟩, H1⟩
  have D1 := D0.trans (H1.mono D0.size)
  have z1 := H1.size
  rcases hr1 with rfl | ⟨d1a, d1b, d1c⟩
  · go_wp2_with fail
    go_ret
    exact ⟨rfl, D1⟩
  have m0 : n0 ≤ 1048576 := by omega
  go_wp2_with fail
  refine (toKnotS_any A0 n0 c0 l0 _ m0 (s0.below D1)).mono ?_
  rintro e w2 ⟨rfl, H2, t2⟩
  have D2 := D1.trans (H2.mono D1.size)
  have z2 := H2.size
  have u0o2 := Own.blk (base := w1.heap.size) (size := 2) t2 (Nat.le_refl _) (Nat.le_refl (n0 * 2)) (fun _ _ => rfl)
  have u0U := u0o2.und
  have u0O := u0o2.over
  go_wp2_with fail
  refine (specCurveText_any _ n0 _ l0 _ m0 u0o2.sl g0).mono ?_
  rintro e w3 ⟨rfl, H3⟩
  have D3 := D2.trans (H3.mono D2.size)
  have z3 := H3.size
  have u0o3 := u0o2.below H3
  go_wp2_with fail
  refine (toKnotS_any A0 n0 c0 l0 _ m0 (s0.below D3)).mono ?_
  rintro e w4 ⟨rfl, H4, t4⟩
  have D4 := D3.trans (H4.mono D3.size)
  have z4 := H4.size
  have x0o4 := Own.blk (base := w3.heap.size) (size := 2) t4 (Nat.le_refl _) (Nat.le_refl (n0 * 2)) (fun _ _ => rfl)
  have x0U := x0o4.und
  have x0O := x0o4.over
  go_wp2_with fail
  refine (implCurveText_any _ n0 _ l0 _ m0 x0o4.sl g0 (hT.below D4)).mono ?_
  rintro e w5 ⟨rfl, H5⟩
  have D5 := D4.trans (H5.mono D4.size)
  have z5 := H5.size
  have x0o5 := x0o4.below H5
  go_wp2_with fail
  refine (toKnotS_any A0 n0 c0 l0 _ m0 (s0.below D5)).mono ?_
  rintro e w6 ⟨rfl, H6, t6⟩
  have D6 := D5.trans (H6.mono D5.size)
  have z6 := H6.size
  have x0o6 := x0o5.below H6
  have e0o6 := Own.blk (base := w5.heap.size) (size := 2) t6 (Nat.le_refl _) (Nat.le_refl (n0 * 2)) (fun _ _ => rfl)
  have e0U := e0o6.und
  have e0O := e0o6.over
  go_wp2_with fail
  refine (eqKnotS_yes _ _ n0 _ _ l0 _ (by omega) x0o6.sl e0o6.sl).mono ?_
  rintro e w7 ⟨rfl, H7⟩
  have D7 := D6.trans (H7.mono D6.size)
  have z7 := H7.size
  have x0o7 := x0o6.below H7
  have e0o7 := e0o6.below H7
  go_wp2_with fail
  go_ret
  exact ⟨rfl, D7⟩

end Go.Proofs.YtjomlcjchndkeaaDoor
