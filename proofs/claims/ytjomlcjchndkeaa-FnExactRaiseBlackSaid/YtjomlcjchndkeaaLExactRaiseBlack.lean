/- FnExactRaiseBlack returns true at every input: the walk. No condition beyond those that every argument meets. -/
import Derived.Test.YtjomlcjchndkeaaCurveMade
import Derived.Test.YtjomlcjchndkeaaSKnot
namespace Go.Proofs.Ytjomlcjchndkeaa
open Go.RowKit Go.Lib Go.Ks
set_option maxHeartbeats 2000000 in
theorem lawRaiseBlack (A0 : Option Addr) (n0 c0 : Nat) (l0 : Nat → KnotD) (x1 : Int) (w : World) (b0 : n0 ≤ 9223372036854775807) (s0 : Sl w A0 (n0 * 2) (KnotC l0)) (g0 : ∀ k, k < n0 → KnotOk (l0 k)) (y1 : -9223372036854775808 ≤ x1 ∧ x1 ≤ 9223372036854775807) :
    Calls Try.prog 8 #[.slice A0 n0 c0, .int .i64 x1] w fun e w' => e = .returned (.bool true) ∧ Below w.heap.size w w' := by
  go_enter Try.func8, Try.ntmps8
  go_wp2_with fail
  refine (szKnotS_any _ _ _ _ b0 (by omega) (by omega) _).mono ?_
  rintro e w1 ⟨⟨r1, rfl, hr1⟩, C1⟩
  have z1 := C1.size
  have B1 := (Below.refl w.heap.size w).trans (C1.mono (Below.refl w.heap.size w).size)
  rcases hr1 with rfl | ⟨d1a, d1b, d1c⟩
  · go_wp2_with fail
    go_ret
    exact ⟨rfl, B1⟩
  have m0 : n0 ≤ 1048576 := by omega
  have mm := mRaiseBlack_len n0 l0 x1
  go_wp2_with fail
  refine (toKnotS_any A0 n0 c0 l0 _ m0 (s0.below B1)).mono ?_
  rintro e w2 ⟨rfl, C2, t2⟩
  have z2 := C2.size
  have B2 := B1.trans (C2.mono B1.size)
  have u0o2 := Own.blk (base := w1.heap.size) (size := 2) t2 (Nat.le_refl _) (Nat.le_refl (n0 * 2)) (fun _ _ => rfl)
  have u0U := u0o2.und
  have u0O := u0o2.over
  go_wp2_with fail
  refine (specRaiseBlack_any _ n0 _ l0 x1 _ m0 u0o2.sl g0 y1).mono ?_
  rintro e w3 ⟨⟨AW, cW, rfl, oW, iW⟩, C3⟩
  have z3 := C3.size
  have u0o3 := u0o2.below C3
  have B3 := B2.trans (C3.mono B2.size)
  have WU := oW.und
  have WO := oW.over
  go_wp2_with fail
  refine (toKnotS_any A0 n0 c0 l0 _ m0 (s0.below B3)).mono ?_
  rintro e w4 ⟨rfl, C4, t4⟩
  have z4 := C4.size
  have Wo4 := oW.below C4
  have B4 := B3.trans (C4.mono B3.size)
  have x0o4 := Own.blk (base := w3.heap.size) (size := 2) t4 (Nat.le_refl _) (Nat.le_refl (n0 * 2)) (fun _ _ => rfl)
  have x0U := x0o4.und
  have x0O := x0o4.over
  go_wp2_with fail
  refine (implRaiseBlack_any _ n0 _ l0 x1 _ m0 x0o4.sl g0 y1).mono ?_
  rintro e w5 ⟨⟨AG, cG, rfl, oG, iG⟩, C5⟩
  have z5 := C5.size
  have Wo5 := Wo4.below C5
  have x0o5 := x0o4.below C5
  have B5 := B4.trans (C5.mono B4.size)
  have GU := oG.und
  have GO := oG.over
  go_wp2_with fail
  refine (eqKnotS_yes _ _ _ _ _ (mRaiseBlackL n0 l0 x1) _ (by omega) oG.sl Wo5.sl).mono ?_
  rintro e w6 ⟨rfl, C6⟩
  have z6 := C6.size
  have Wo6 := Wo5.below C6
  have x0o6 := x0o5.below C6
  have Go6 := oG.below C6
  have B6 := B5.trans (C6.mono B5.size)
  go_wp2_with fail
  refine (toKnotS_any A0 n0 c0 l0 _ m0 (s0.below B6)).mono ?_
  rintro e w7 ⟨rfl, C7, t7⟩
  have z7 := C7.size
  have Wo7 := Wo6.below C7
  have x0o7 := x0o6.below C7
  have Go7 := Go6.below C7
  have B7 := B6.trans (C7.mono B6.size)
  have e0o7 := Own.blk (base := w6.heap.size) (size := 2) t7 (Nat.le_refl _) (Nat.le_refl (n0 * 2)) (fun _ _ => rfl)
  have e0U := e0o7.und
  have e0O := e0o7.over
  go_wp2_with fail
  refine (eqKnotS_yes _ _ _ _ _ l0 _ (by omega) x0o7.sl e0o7.sl).mono ?_
  rintro e w8 ⟨rfl, C8⟩
  have z8 := C8.size
  have Wo8 := Wo7.below C8
  have x0o8 := x0o7.below C8
  have Go8 := Go7.below C8
  have e0o8 := e0o7.below C8
  have B8 := B7.trans (C8.mono B7.size)
  go_wp2_with fail
  refine (markKnotS_any _ _ n0 _ 1 (KnotC l0) _ (by omega) (by omega) (by omega) x0o8 (fun h => by cases h)).mono ?_
  rintro e w9 ⟨rfl, C9, x0o9⟩
  have z9 := C9.size
  have Wo9 := Wo8.kept (fun a b ha hb => by have h1 := WU a ha; have h2 := x0O b hb; omega) C9
  have Go9 := Go8.kept (fun a b ha hb => by have h1 := GO a ha; have h2 := x0U b hb; omega) C9
  have B9 := Below.only B8 (fun ad h => by have h1 := x0O ad h; omega) B8.size C9
  go_wp2_with fail
  refine (eqKnotS_yes _ _ _ _ _ (mRaiseBlackL n0 l0 x1) _ (by omega) Go9.sl Wo9.sl).mono ?_
  rintro e w10 ⟨rfl, C10⟩
  have z10 := C10.size
  have Wo10 := Wo9.below C10
  have x0o10 := x0o9.below C10
  have Go10 := Go9.below C10
  have B10 := B9.trans (C10.mono B9.size)
  go_wp2_with fail
  refine (markKnotS_any _ _ (mRaiseBlackN n0 l0 x1) _ 1 (KnotC (mRaiseBlackL n0 l0 x1)) _ (by omega) (by omega) (by omega) Go10 iG).mono ?_
  rintro e w11 ⟨rfl, C11, Go11⟩
  have z11 := C11.size
  have Wo11 := Wo10.kept (fun a b ha hb => by have h1 := WU a ha; have h2 := GO b hb; omega) C11
  have B11 := Below.only B10 (fun ad h => by have h1 := GO ad h; omega) B10.size C11
  go_wp2_with fail
  refine (heldKnotS_any _ (mRaiseBlackN n0 l0 x1) _ 1 (KnotC (mRaiseBlackL n0 l0 x1)) _ (by omega) (by omega) (by omega) Go11.sl).mono ?_
  rintro e w12 ⟨rfl, C12⟩
  have z12 := C12.size
  have Wo12 := Wo11.below C12
  have Go12 := Go11.below C12
  have B12 := B11.trans (C12.mono B11.size)
  go_wp2_with fail
  refine (toKnotS_any A0 n0 c0 l0 _ m0 (s0.below B12)).mono ?_
  rintro e w13 ⟨rfl, C13, t13⟩
  have z13 := C13.size
  have Wo13 := Wo12.below C13
  have Go13 := Go12.below C13
  have B13 := B12.trans (C13.mono B12.size)
  have y0o13 := Own.blk (base := w12.heap.size) (size := 2) t13 (Nat.le_refl _) (Nat.le_refl (n0 * 2)) (fun _ _ => rfl)
  have y0U := y0o13.und
  have y0O := y0o13.over
  go_wp2_with fail
  refine (implRaiseBlack_any _ n0 _ l0 x1 _ m0 y0o13.sl g0 y1).mono ?_
  rintro e w14 ⟨⟨AH, cH, rfl, oH, iH⟩, C14⟩
  have z14 := C14.size
  have Wo14 := Wo13.below C14
  have Go14 := Go13.below C14
  have y0o14 := y0o13.below C14
  have B14 := B13.trans (C14.mono B13.size)
  have HU := oH.und
  have HO := oH.over
  go_wp2_with fail
  refine (eqKnotS_yes _ _ _ _ _ (mRaiseBlackL n0 l0 x1) _ (by omega) oH.sl Wo14.sl).mono ?_
  rintro e w15 ⟨rfl, C15⟩
  have z15 := C15.size
  have Wo15 := Wo14.below C15
  have Go15 := Go14.below C15
  have Ho15 := oH.below C15
  have B15 := B14.trans (C15.mono B14.size)
  go_wp2_with fail
  refine (heldKnotS_any _ (mRaiseBlackN n0 l0 x1) _ 1 (KnotC (mRaiseBlackL n0 l0 x1)) _ (by omega) (by omega) (by omega) Go15.sl).mono ?_
  rintro e w16 ⟨rfl, C16⟩
  have z16 := C16.size
  have Go16 := Go15.below C16
  have B16 := B15.trans (C16.mono B15.size)
  go_wp2_with fail
  go_ret
  exact ⟨rfl, B16⟩

end Go.Proofs.Ytjomlcjchndkeaa
