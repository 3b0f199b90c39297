/- FnExactBlackAt returns true at every input: the walk. No condition beyond those that every argument meets. -/
import Derived.Test.YtkjnpnijplnoaaaDoorBlackAt
import Derived.Test.YtkjnpnijplnoaaaDoorSProjector
import Derived.Deep.RegionHeld3
import Derived.Deep.DeepCutAuto
namespace Go.Proofs.YtkjnpnijplnoaaaDoor
open Go.RowKit Go.Lib Go.Ks
set_option linter.unusedVariables false
set_option maxRecDepth 100000 in
set_option maxHeartbeats 4000000 in
theorem lawBlackAt (A0 : Option Addr) (n0 c0 : Nat) (l0 : Nat → ProjectorD) (A1 : Option Addr) (n1 c1 : Nat) (l1 : Nat → Int) (x2 : Int) (x3 : Int) (w : World) (b0 : n0 ≤ 9223372036854775807) (s0 : Sl w A0 (n0 * 5) (ProjectorC l0)) (g0 : ∀ k, k < n0 → ProjectorOk (l0 k)) (b1 : n1 ≤ 9223372036854775807) (s1 : Sl w A1 (n1 * 1) (IntC l1)) (g1 : ∀ k, k < n1 → -9223372036854775808 ≤ l1 k ∧ l1 k ≤ 9223372036854775807) (y2 : -9223372036854775808 ≤ x2 ∧ x2 ≤ 9223372036854775807) (y3 : -9223372036854775808 ≤ x3 ∧ x3 ≤ 9223372036854775807) (hT : Tab w) :
    Calls Tryd.prog 6 #[.slice A0 n0 c0, .slice A1 n1 c1, .int .i64 x2, .int .i64 x3] w fun e w' => e = .returned (.bool true) ∧ Below w.heap.size w w' := by
  have D0 := Below.refl w.heap.size w
  go_enter Tryd.func6, Tryd.ntmps6
  by_cases m1 : n1 ≤ 1048576
  rotate_left
  · go_wp2_with fail
    go_ret
    exact ⟨rfl, D0⟩
  go_wp2_with fail
  refine (szProjectorS_any _ _ _ l0 _ b0 (by omega) (by omega) _ (s0.below D0) (fun q hq => (g0 q hq).1)).mono ?_
  rintro e w1 ⟨⟨r1, rfl, hr1⟩, H1⟩
  have D1 := D0.trans (H1.mono D0.size)
  have z1 := H1.size
  rcases hr1 with rfl | ⟨d1a, d1b, d1c⟩
  · go_wp2_with fail
    go_ret
    exact ⟨rfl, D1⟩
  have m0 : n0 ≤ 1048576 := by omega
  go_wp2_with fail
  refine (toProjectorS_any A0 n0 c0 l0 _ m0 (s0.below D1)).mono ?_
  rintro e w2 ⟨rfl, H2, t2⟩
  have D2 := D1.trans (H2.mono D1.size)
  have z2 := H2.size
  have u0o2 := Own.blk (base := w1.heap.size) (size := 5) t2 (Nat.le_refl _) (Nat.le_refl (n0 * 5)) (fun _ _ => rfl)
  have u0U := u0o2.und
  have u0O := u0o2.over
  go_wp2_with fail
  refine (toInt64S_any A1 n1 c1 l1 _ m1 (s1.below D2)).mono ?_
  rintro e w3 ⟨rfl, H3, t3⟩
  have D3 := D2.trans (H3.mono D2.size)
  have z3 := H3.size
  have u0o3 := u0o2.below H3
  have u1o3 := Own.blk (base := w2.heap.size) (size := 1) t3 (Nat.le_refl _) (Nat.le_refl (n1 * 1)) (fun _ _ => rfl)
  have u1U := u1o3.und
  have u1O := u1o3.over
  go_wp2_with fail
  refine (specBlackAt_any _ n0 _ l0 _ n1 _ l1 x2 x3 _ m0 u0o3.sl g0 m1 u1o3.sl g1 y2 y3).mono ?_
  rintro e w4 ⟨rfl, H4⟩
  have D4 := D3.trans (H4.mono D3.size)
  have z4 := H4.size
  have u0o4 := u0o3.below H4
  have u1o4 := u1o3.below H4
  go_wp2_with fail
  refine (toProjectorS_any A0 n0 c0 l0 _ m0 (s0.below D4)).mono ?_
  rintro e w5 ⟨rfl, H5, t5⟩
  have D5 := D4.trans (H5.mono D4.size)
  have z5 := H5.size
  have x0o5 := Own.blk (base := w4.heap.size) (size := 5) t5 (Nat.le_refl _) (Nat.le_refl (n0 * 5)) (fun _ _ => rfl)
  have x0U := x0o5.und
  have x0O := x0o5.over
  go_wp2_with fail
  refine (toInt64S_any A1 n1 c1 l1 _ m1 (s1.below D5)).mono ?_
  rintro e w6 ⟨rfl, H6, t6⟩
  have D6 := D5.trans (H6.mono D5.size)
  have z6 := H6.size
  have x0o6 := x0o5.below H6
  have x1o6 := Own.blk (base := w5.heap.size) (size := 1) t6 (Nat.le_refl _) (Nat.le_refl (n1 * 1)) (fun _ _ => rfl)
  have x1U := x1o6.und
  have x1O := x1o6.over
  go_wp2_with fail
  refine (implBlackAt_any _ n0 _ l0 _ n1 _ l1 x2 x3 _ m0 x0o6.sl g0 m1 x1o6.sl g1 y2 y3 (hT.below D6)).mono ?_
  rintro e w7 ⟨rfl, H7⟩
  have D7 := D6.trans (H7.mono D6.size)
  have z7 := H7.size
  have x0o7 := x0o6.below H7
  have x1o7 := x1o6.below H7
  go_wp2_with fail
  refine (toProjectorS_any A0 n0 c0 l0 _ m0 (s0.below D7)).mono ?_
  rintro e w8 ⟨rfl, H8, t8⟩
  have D8 := D7.trans (H8.mono D7.size)
  have z8 := H8.size
  have x0o8 := x0o7.below H8
  have x1o8 := x1o7.below H8
  have e0o8 := Own.blk (base := w7.heap.size) (size := 5) t8 (Nat.le_refl _) (Nat.le_refl (n0 * 5)) (fun _ _ => rfl)
  have e0U := e0o8.und
  have e0O := e0o8.over
  go_wp2_with fail
  refine (eqProjectorS_yes _ _ n0 _ _ l0 _ (by omega) x0o8.sl e0o8.sl).mono ?_
  rintro e w9 ⟨rfl, H9⟩
  have D9 := D8.trans (H9.mono D8.size)
  have z9 := H9.size
  have x0o9 := x0o8.below H9
  have x1o9 := x1o8.below H9
  have e0o9 := e0o8.below H9
  go_wp2_with fail
  refine (toInt64S_any A1 n1 c1 l1 _ m1 (s1.below D9)).mono ?_
  rintro e w10 ⟨rfl, H10, t10⟩
  have D10 := D9.trans (H10.mono D9.size)
  have z10 := H10.size
  have x0o10 := x0o9.below H10
  have x1o10 := x1o9.below H10
  have e1o10 := Own.blk (base := w9.heap.size) (size := 1) t10 (Nat.le_refl _) (Nat.le_refl (n1 * 1)) (fun _ _ => rfl)
  have e1U := e1o10.und
  have e1O := e1o10.over
  go_wp2_with fail
  refine (eqInt64S_yes _ _ n1 _ _ l1 _ (by omega) x1o10.sl e1o10.sl).mono ?_
  rintro e w11 ⟨rfl, H11⟩
  have D11 := D10.trans (H11.mono D10.size)
  have z11 := H11.size
  have x0o11 := x0o10.below H11
  have x1o11 := x1o10.below H11
  have e1o11 := e1o10.below H11
  go_wp2_with fail
  go_ret
  exact ⟨rfl, D11⟩

end Go.Proofs.YtkjnpnijplnoaaaDoor
