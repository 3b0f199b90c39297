/- FnExactOverlapShare returns true at every input: the walk. No condition beyond those that every argument meets. -/
import Derived.Test.YtkjnpnijplnoaaaDoorShare
import Derived.Test.YtkjnpnijplnoaaaDoorSProjector
namespace Go.Proofs.YtkjnpnijplnoaaaDoor
open Go.RowKit Go.Lib Go.Ks
set_option maxHeartbeats 2000000 in
theorem lawOverlapShare (A0 : Option Addr) (n0 c0 : Nat) (l0 : Nat → ProjectorD) (x1 : Int) (w : World) (b0 : n0 ≤ 9223372036854775807) (s0 : Sl w A0 (n0 * 5) (ProjectorC l0)) (g0 : ∀ k, k < n0 → ProjectorOk (l0 k)) (y1 : -9223372036854775808 ≤ x1 ∧ x1 ≤ 9223372036854775807) (hT : Tab w) :
    Calls Tryd.prog 9 #[.slice A0 n0 c0, .int .i64 x1] w fun e w' => e = .returned (.bool true) ∧ Below w.heap.size w w' := by
  go_enter Tryd.func9, Tryd.ntmps9
  go_wp2_with fail
  refine (szProjectorS_any _ _ _ l0 _ b0 (by omega) (by omega) _ s0 (fun q hq => (g0 q hq).1)).mono ?_
  rintro e w1 ⟨⟨r1, rfl, hr1⟩, C1⟩
  have z1 := C1.size
  have B1 := (Below.refl w.heap.size w).trans (C1.mono (Below.refl w.heap.size w).size)
  rcases hr1 with rfl | ⟨d1a, d1b, d1c⟩
  · go_wp2_with fail
    go_ret
    exact ⟨rfl, B1⟩
  have m0 : n0 ≤ 1048576 := by omega
  go_wp2_with fail
  refine (toProjectorS_any A0 n0 c0 l0 _ m0 (s0.below B1)).mono ?_
  rintro e w2 ⟨rfl, C2, t2⟩
  have z2 := C2.size
  have B2 := B1.trans (C2.mono B1.size)
  have u0o2 := Own.blk (base := w1.heap.size) (size := 5) t2 (Nat.le_refl _) (Nat.le_refl (n0 * 5)) (fun _ _ => rfl)
  have u0U := u0o2.und
  have u0O := u0o2.over
  go_wp2_with fail
  refine (specOverlapShare_any _ n0 _ l0 x1 _ m0 u0o2.sl g0 y1).mono ?_
  rintro e w3 ⟨rfl, C3⟩
  have z3 := C3.size
  have u0o3 := u0o2.below C3
  have B3 := B2.trans (C3.mono B2.size)
  go_wp2_with fail
  refine (toProjectorS_any A0 n0 c0 l0 _ m0 (s0.below B3)).mono ?_
  rintro e w4 ⟨rfl, C4, t4⟩
  have z4 := C4.size
  have B4 := B3.trans (C4.mono B3.size)
  have x0o4 := Own.blk (base := w3.heap.size) (size := 5) t4 (Nat.le_refl _) (Nat.le_refl (n0 * 5)) (fun _ _ => rfl)
  have x0U := x0o4.und
  have x0O := x0o4.over
  go_wp2_with fail
  refine (implOverlapShare_any _ n0 _ l0 x1 _ m0 x0o4.sl g0 y1 (hT.below B4)).mono ?_
  rintro e w5 ⟨rfl, C5⟩
  have z5 := C5.size
  have x0o5 := x0o4.below C5
  have B5 := B4.trans (C5.mono B4.size)
  go_wp2_with fail
  refine (toProjectorS_any A0 n0 c0 l0 _ m0 (s0.below B5)).mono ?_
  rintro e w6 ⟨rfl, C6, t6⟩
  have z6 := C6.size
  have x0o6 := x0o5.below C6
  have B6 := B5.trans (C6.mono B5.size)
  have e0o6 := Own.blk (base := w5.heap.size) (size := 5) t6 (Nat.le_refl _) (Nat.le_refl (n0 * 5)) (fun _ _ => rfl)
  have e0U := e0o6.und
  have e0O := e0o6.over
  go_wp2_with fail
  refine (eqProjectorS_yes _ _ _ _ _ l0 _ (by omega) x0o6.sl e0o6.sl).mono ?_
  rintro e w7 ⟨rfl, C7⟩
  have z7 := C7.size
  have x0o7 := x0o6.below C7
  have e0o7 := e0o6.below C7
  have B7 := B6.trans (C7.mono B6.size)
  go_wp2_with fail
  go_ret
  exact ⟨rfl, B7⟩

end Go.Proofs.YtkjnpnijplnoaaaDoor
