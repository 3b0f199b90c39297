/- FnExactSameCues returns true at every input: the walk. No condition beyond those that every argument meets. -/
import Derived.Test.YtikonccofaiceaaSameCues
import Derived.Test.YtikonccofaiceaaSCue
namespace Go.Proofs.Ytikonccofaiceaa
open Go.RowKit Go.Lib Go.Ks
set_option maxHeartbeats 2000000 in
theorem lawSameCues (A0 : Option Addr) (n0 c0 : Nat) (l0 : Nat → CueD) (A1 : Option Addr) (n1 c1 : Nat) (l1 : Nat → CueD) (w : World) (b0 : n0 ≤ 9223372036854775807) (s0 : Sl w A0 (n0 * 6) (CueC l0)) (g0 : ∀ k, k < n0 → CueOk (l0 k)) (b1 : n1 ≤ 9223372036854775807) (s1 : Sl w A1 (n1 * 6) (CueC l1)) (g1 : ∀ k, k < n1 → CueOk (l1 k)) :
    Calls Try.prog 4 #[.slice A0 n0 c0, .slice A1 n1 c1] w fun e w' => e = .returned (.bool true) ∧ Below w.heap.size w w' := by
  go_enter Try.func4, Try.ntmps4
  go_wp2_with fail
  refine (szCueS_any _ _ _ l0 _ b0 (by omega) (by omega) _ s0 (fun q hq => ⟨(g0 q hq).1, (g0 q hq).2.2.2.1⟩)).mono ?_
  rintro e w1 ⟨⟨r1, rfl, hr1⟩, C1⟩
  have z1 := C1.size
  have B1 := (Below.refl w.heap.size w).trans (C1.mono (Below.refl w.heap.size w).size)
  rcases hr1 with rfl | ⟨d1a, d1b, d1c⟩
  · go_wp2_with fail
    go_ret
    exact ⟨rfl, B1⟩
  have m0 : n0 ≤ 1048576 := by omega
  go_wp2_with fail
  refine (szCueS_any _ _ _ l1 _ b1 (by omega) (by omega) _ (s1.below B1) (fun q hq => ⟨(g1 q hq).1, (g1 q hq).2.2.2.1⟩)).mono ?_
  rintro e w2 ⟨⟨r2, rfl, hr2⟩, C2⟩
  have z2 := C2.size
  have B2 := B1.trans (C2.mono B1.size)
  rcases hr2 with rfl | ⟨d2a, d2b, d2c⟩
  · go_wp2_with fail
    go_ret
    exact ⟨rfl, B2⟩
  have m1 : n1 ≤ 1048576 := by omega
  go_wp2_with fail
  refine (toCueS_any A0 n0 c0 l0 _ m0 (s0.below B2)).mono ?_
  rintro e w3 ⟨rfl, C3, t3⟩
  have z3 := C3.size
  have B3 := B2.trans (C3.mono B2.size)
  have u0o3 := Own.blk (base := w2.heap.size) (size := 6) t3 (Nat.le_refl _) (Nat.le_refl (n0 * 6)) (fun _ _ => rfl)
  have u0U := u0o3.und
  have u0O := u0o3.over
  go_wp2_with fail
  refine (toCueS_any A1 n1 c1 l1 _ m1 (s1.below B3)).mono ?_
  rintro e w4 ⟨rfl, C4, t4⟩
  have z4 := C4.size
  have u0o4 := u0o3.below C4
  have B4 := B3.trans (C4.mono B3.size)
  have u1o4 := Own.blk (base := w3.heap.size) (size := 6) t4 (Nat.le_refl _) (Nat.le_refl (n1 * 6)) (fun _ _ => rfl)
  have u1U := u1o4.und
  have u1O := u1o4.over
  go_wp2_with fail
  refine (specSameCues_any _ n0 _ l0 _ n1 _ l1 _ m0 u0o4.sl g0 m1 u1o4.sl g1).mono ?_
  rintro e w5 ⟨rfl, C5⟩
  have z5 := C5.size
  have u0o5 := u0o4.below C5
  have u1o5 := u1o4.below C5
  have B5 := B4.trans (C5.mono B4.size)
  go_wp2_with fail
  refine (toCueS_any A0 n0 c0 l0 _ m0 (s0.below B5)).mono ?_
  rintro e w6 ⟨rfl, C6, t6⟩
  have z6 := C6.size
  have B6 := B5.trans (C6.mono B5.size)
  have x0o6 := Own.blk (base := w5.heap.size) (size := 6) t6 (Nat.le_refl _) (Nat.le_refl (n0 * 6)) (fun _ _ => rfl)
  have x0U := x0o6.und
  have x0O := x0o6.over
  go_wp2_with fail
  refine (toCueS_any A1 n1 c1 l1 _ m1 (s1.below B6)).mono ?_
  rintro e w7 ⟨rfl, C7, t7⟩
  have z7 := C7.size
  have x0o7 := x0o6.below C7
  have B7 := B6.trans (C7.mono B6.size)
  have x1o7 := Own.blk (base := w6.heap.size) (size := 6) t7 (Nat.le_refl _) (Nat.le_refl (n1 * 6)) (fun _ _ => rfl)
  have x1U := x1o7.und
  have x1O := x1o7.over
  go_wp2_with fail
  refine (implSameCues_any _ n0 _ l0 _ n1 _ l1 _ m0 x0o7.sl g0 m1 x1o7.sl g1).mono ?_
  rintro e w8 ⟨rfl, C8⟩
  have z8 := C8.size
  have x0o8 := x0o7.below C8
  have x1o8 := x1o7.below C8
  have B8 := B7.trans (C8.mono B7.size)
  go_wp2_with fail
  refine (toCueS_any A0 n0 c0 l0 _ m0 (s0.below B8)).mono ?_
  rintro e w9 ⟨rfl, C9, t9⟩
  have z9 := C9.size
  have x0o9 := x0o8.below C9
  have x1o9 := x1o8.below C9
  have B9 := B8.trans (C9.mono B8.size)
  have e0o9 := Own.blk (base := w8.heap.size) (size := 6) t9 (Nat.le_refl _) (Nat.le_refl (n0 * 6)) (fun _ _ => rfl)
  have e0U := e0o9.und
  have e0O := e0o9.over
  go_wp2_with fail
  refine (eqCueS_yes _ _ _ _ _ l0 _ (by omega) x0o9.sl e0o9.sl).mono ?_
  rintro e w10 ⟨rfl, C10⟩
  have z10 := C10.size
  have x0o10 := x0o9.below C10
  have x1o10 := x1o9.below C10
  have e0o10 := e0o9.below C10
  have B10 := B9.trans (C10.mono B9.size)
  go_wp2_with fail
  refine (toCueS_any A1 n1 c1 l1 _ m1 (s1.below B10)).mono ?_
  rintro e w11 ⟨rfl, C11, t11⟩
  have z11 := C11.size
  have x0o11 := x0o10.below C11
  have x1o11 := x1o10.below C11
  have B11 := B10.trans (C11.mono B10.size)
  have e1o11 := Own.blk (base := w10.heap.size) (size := 6) t11 (Nat.le_refl _) (Nat.le_refl (n1 * 6)) (fun _ _ => rfl)
  have e1U := e1o11.und
  have e1O := e1o11.over
  go_wp2_with fail
  refine (eqCueS_yes _ _ _ _ _ l1 _ (by omega) x1o11.sl e1o11.sl).mono ?_
  rintro e w12 ⟨rfl, C12⟩
  have z12 := C12.size
  have x0o12 := x0o11.below C12
  have x1o12 := x1o11.below C12
  have e1o12 := e1o11.below C12
  have B12 := B11.trans (C12.mono B11.size)
  go_wp2_with fail
  go_ret
  exact ⟨rfl, B12⟩

end Go.Proofs.Ytikonccofaiceaa
