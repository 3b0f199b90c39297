/- FnExactComposeCurves returns true at every input: the walk. No condition beyond those that every argument meets. -/
import Derived.Test.YtjomlcjchndkeaaCurveMade
import Derived.Test.YtjomlcjchndkeaaSKnot
namespace Go.Proofs.Ytjomlcjchndkeaa
open Go.RowKit Go.Lib Go.Ks
set_option maxHeartbeats 2000000 in
theorem lawComposeCurves (A0 : Option Addr) (n0 c0 : Nat) (l0 : Nat → KnotD) (A1 : Option Addr) (n1 c1 : Nat) (l1 : Nat → KnotD) (w : World) (b0 : n0 ≤ 9223372036854775807) (s0 : Sl w A0 (n0 * 2) (KnotC l0)) (g0 : ∀ k, k < n0 → KnotOk (l0 k)) (b1 : n1 ≤ 9223372036854775807) (s1 : Sl w A1 (n1 * 2) (KnotC l1)) (g1 : ∀ k, k < n1 → KnotOk (l1 k)) :
    Calls Try.prog 7 #[.slice A0 n0 c0, .slice A1 n1 c1] w fun e w' => e = .returned (.bool true) ∧ Below w.heap.size w w' := by
  go_enter Try.func7, Try.ntmps7
  go_wp2_with fail
  refine (szKnotS_any _ _ _ _ b0 (by omega) (by omega) _).mono ?_
  rintro e w1 ⟨⟨r1, rfl, hr1⟩, C1⟩
  have z1 := C1.size
  have B1 := (Below.refl w.heap.size w).trans (C1.mono (Below.refl w.heap.size w).size)
  rcases hr1 with rfl | ⟨d1a, d1b, d1c⟩
  · go_wp2_with fail
    go_ret
    exact ⟨rfl, B1⟩
  have m0 : n0 ≤ 1048576 := by omega
  go_wp2_with fail
  refine (szKnotS_any _ _ _ _ b1 (by omega) (by omega) _).mono ?_
  rintro e w2 ⟨⟨r2, rfl, hr2⟩, C2⟩
  have z2 := C2.size
  have B2 := B1.trans (C2.mono B1.size)
  rcases hr2 with rfl | ⟨d2a, d2b, d2c⟩
  · go_wp2_with fail
    go_ret
    exact ⟨rfl, B2⟩
  have m1 : n1 ≤ 1048576 := by omega
  have mm := mComposeCurves_len n0 l0 n1 l1
  go_wp2_with fail
  refine (toKnotS_any A0 n0 c0 l0 _ m0 (s0.below B2)).mono ?_
  rintro e w3 ⟨rfl, C3, t3⟩
  have z3 := C3.size
  have B3 := B2.trans (C3.mono B2.size)
  have u0o3 := Own.blk (base := w2.heap.size) (size := 2) t3 (Nat.le_refl _) (Nat.le_refl (n0 * 2)) (fun _ _ => rfl)
  have u0U := u0o3.und
  have u0O := u0o3.over
  go_wp2_with fail
  refine (toKnotS_any A1 n1 c1 l1 _ m1 (s1.below B3)).mono ?_
  rintro e w4 ⟨rfl, C4, t4⟩
  have z4 := C4.size
  have u0o4 := u0o3.below C4
  have B4 := B3.trans (C4.mono B3.size)
  have u1o4 := Own.blk (base := w3.heap.size) (size := 2) t4 (Nat.le_refl _) (Nat.le_refl (n1 * 2)) (fun _ _ => rfl)
  have u1U := u1o4.und
  have u1O := u1o4.over
  go_wp2_with fail
  refine (specComposeCurves_any _ n0 _ l0 _ n1 _ l1 _ m0 u0o4.sl g0 m1 u1o4.sl g1).mono ?_
  rintro e w5 ⟨⟨AW, cW, rfl, oW, iW⟩, C5⟩
  have z5 := C5.size
  have u0o5 := u0o4.below C5
  have u1o5 := u1o4.below C5
  have B5 := B4.trans (C5.mono B4.size)
  have WU := oW.und
  have WO := oW.over
  go_wp2_with fail
  refine (toKnotS_any A0 n0 c0 l0 _ m0 (s0.below B5)).mono ?_
  rintro e w6 ⟨rfl, C6, t6⟩
  have z6 := C6.size
  have Wo6 := oW.below C6
  have B6 := B5.trans (C6.mono B5.size)
  have x0o6 := Own.blk (base := w5.heap.size) (size := 2) t6 (Nat.le_refl _) (Nat.le_refl (n0 * 2)) (fun _ _ => rfl)
  have x0U := x0o6.und
  have x0O := x0o6.over
  go_wp2_with fail
  refine (toKnotS_any A1 n1 c1 l1 _ m1 (s1.below B6)).mono ?_
  rintro e w7 ⟨rfl, C7, t7⟩
  have z7 := C7.size
  have Wo7 := Wo6.below C7
  have x0o7 := x0o6.below C7
  have B7 := B6.trans (C7.mono B6.size)
  have x1o7 := Own.blk (base := w6.heap.size) (size := 2) t7 (Nat.le_refl _) (Nat.le_refl (n1 * 2)) (fun _ _ => rfl)
  have x1U := x1o7.und
  have x1O := x1o7.over
  go_wp2_with fail
  refine (implComposeCurves_any _ n0 _ l0 _ n1 _ l1 _ m0 x0o7.sl g0 m1 x1o7.sl g1).mono ?_
  rintro e w8 ⟨⟨AG, cG, rfl, oG, iG⟩, C8⟩
  have z8 := C8.size
  have Wo8 := Wo7.below C8
  have x0o8 := x0o7.below C8
  have x1o8 := x1o7.below C8
  have B8 := B7.trans (C8.mono B7.size)
  have GU := oG.und
  have GO := oG.over
  go_wp2_with fail
  refine (eqKnotS_yes _ _ _ _ _ (mComposeCurvesL n0 l0 n1 l1) _ (by omega) oG.sl Wo8.sl).mono ?_
  rintro e w9 ⟨rfl, C9⟩
  have z9 := C9.size
  have Wo9 := Wo8.below C9
  have x0o9 := x0o8.below C9
  have x1o9 := x1o8.below C9
  have Go9 := oG.below C9
  have B9 := B8.trans (C9.mono B8.size)
  go_wp2_with fail
  refine (toKnotS_any A0 n0 c0 l0 _ m0 (s0.below B9)).mono ?_
  rintro e w10 ⟨rfl, C10, t10⟩
  have z10 := C10.size
  have Wo10 := Wo9.below C10
  have x0o10 := x0o9.below C10
  have x1o10 := x1o9.below C10
  have Go10 := Go9.below C10
  have B10 := B9.trans (C10.mono B9.size)
  have e0o10 := Own.blk (base := w9.heap.size) (size := 2) t10 (Nat.le_refl _) (Nat.le_refl (n0 * 2)) (fun _ _ => rfl)
  have e0U := e0o10.und
  have e0O := e0o10.over
  go_wp2_with fail
  refine (eqKnotS_yes _ _ _ _ _ l0 _ (by omega) x0o10.sl e0o10.sl).mono ?_
  rintro e w11 ⟨rfl, C11⟩
  have z11 := C11.size
  have Wo11 := Wo10.below C11
  have x0o11 := x0o10.below C11
  have x1o11 := x1o10.below C11
  have Go11 := Go10.below C11
  have e0o11 := e0o10.below C11
  have B11 := B10.trans (C11.mono B10.size)
  go_wp2_with fail
  refine (toKnotS_any A1 n1 c1 l1 _ m1 (s1.below B11)).mono ?_
  rintro e w12 ⟨rfl, C12, t12⟩
  have z12 := C12.size
  have Wo12 := Wo11.below C12
  have x0o12 := x0o11.below C12
  have x1o12 := x1o11.below C12
  have Go12 := Go11.below C12
  have B12 := B11.trans (C12.mono B11.size)
  have e1o12 := Own.blk (base := w11.heap.size) (size := 2) t12 (Nat.le_refl _) (Nat.le_refl (n1 * 2)) (fun _ _ => rfl)
  have e1U := e1o12.und
  have e1O := e1o12.over
  go_wp2_with fail
  refine (eqKnotS_yes _ _ _ _ _ l1 _ (by omega) x1o12.sl e1o12.sl).mono ?_
  rintro e w13 ⟨rfl, C13⟩
  have z13 := C13.size
  have Wo13 := Wo12.below C13
  have x0o13 := x0o12.below C13
  have x1o13 := x1o12.below C13
  have Go13 := Go12.below C13
  have e1o13 := e1o12.below C13
  have B13 := B12.trans (C13.mono B12.size)
  go_wp2_with fail
  refine (markKnotS_any _ _ n0 _ 1 (KnotC l0) _ (by omega) (by omega) (by omega) x0o13 (fun h => by cases h)).mono ?_
  rintro e w14 ⟨rfl, C14, x0o14⟩
  have z14 := C14.size
  have Wo14 := Wo13.kept (fun a b ha hb => by have h1 := WU a ha; have h2 := x0O b hb; omega) C14
  have x1o14 := x1o13.kept (fun a b ha hb => by have h1 := x1O a ha; have h2 := x0U b hb; omega) C14
  have Go14 := Go13.kept (fun a b ha hb => by have h1 := GO a ha; have h2 := x0U b hb; omega) C14
  have B14 := Below.only B13 (fun ad h => by have h1 := x0O ad h; omega) B13.size C14
  go_wp2_with fail
  refine (markKnotS_any _ _ n1 _ (1 + (n0 : Int) * 2) (KnotC l1) _ (by omega) (by omega) (by omega) x1o14 (fun h => by cases h)).mono ?_
  rintro e w15 ⟨rfl, C15, x1o15⟩
  have z15 := C15.size
  have Wo15 := Wo14.kept (fun a b ha hb => by have h1 := WU a ha; have h2 := x1O b hb; omega) C15
  have x0o15 := x0o14.kept (fun a b ha hb => by have h1 := x0U a ha; have h2 := x1O b hb; omega) C15
  have Go15 := Go14.kept (fun a b ha hb => by have h1 := GO a ha; have h2 := x1U b hb; omega) C15
  have B15 := Below.only B14 (fun ad h => by have h1 := x1O ad h; omega) B14.size C15
  go_wp2_with fail
  refine (eqKnotS_yes _ _ _ _ _ (mComposeCurvesL n0 l0 n1 l1) _ (by omega) Go15.sl Wo15.sl).mono ?_
  rintro e w16 ⟨rfl, C16⟩
  have z16 := C16.size
  have Wo16 := Wo15.below C16
  have x0o16 := x0o15.below C16
  have x1o16 := x1o15.below C16
  have Go16 := Go15.below C16
  have B16 := B15.trans (C16.mono B15.size)
  go_wp2_with fail
  refine (markKnotS_any _ _ (mComposeCurvesN n0 l0 n1 l1) _ 1 (KnotC (mComposeCurvesL n0 l0 n1 l1)) _ (by omega) (by omega) (by omega) Go16 iG).mono ?_
  rintro e w17 ⟨rfl, C17, Go17⟩
  have z17 := C17.size
  have Wo17 := Wo16.kept (fun a b ha hb => by have h1 := WU a ha; have h2 := GO b hb; omega) C17
  have B17 := Below.only B16 (fun ad h => by have h1 := GO ad h; omega) B16.size C17
  go_wp2_with fail
  refine (heldKnotS_any _ (mComposeCurvesN n0 l0 n1 l1) _ 1 (KnotC (mComposeCurvesL n0 l0 n1 l1)) _ (by omega) (by omega) (by omega) Go17.sl).mono ?_
  rintro e w18 ⟨rfl, C18⟩
  have z18 := C18.size
  have Wo18 := Wo17.below C18
  have Go18 := Go17.below C18
  have B18 := B17.trans (C18.mono B17.size)
  go_wp2_with fail
  refine (toKnotS_any A0 n0 c0 l0 _ m0 (s0.below B18)).mono ?_
  rintro e w19 ⟨rfl, C19, t19⟩
  have z19 := C19.size
  have Wo19 := Wo18.below C19
  have Go19 := Go18.below C19
  have B19 := B18.trans (C19.mono B18.size)
  have y0o19 := Own.blk (base := w18.heap.size) (size := 2) t19 (Nat.le_refl _) (Nat.le_refl (n0 * 2)) (fun _ _ => rfl)
  have y0U := y0o19.und
  have y0O := y0o19.over
  go_wp2_with fail
  refine (toKnotS_any A1 n1 c1 l1 _ m1 (s1.below B19)).mono ?_
  rintro e w20 ⟨rfl, C20, t20⟩
  have z20 := C20.size
  have Wo20 := Wo19.below C20
  have Go20 := Go19.below C20
  have y0o20 := y0o19.below C20
  have B20 := B19.trans (C20.mono B19.size)
  have y1o20 := Own.blk (base := w19.heap.size) (size := 2) t20 (Nat.le_refl _) (Nat.le_refl (n1 * 2)) (fun _ _ => rfl)
  have y1U := y1o20.und
  have y1O := y1o20.over
  go_wp2_with fail
  refine (implComposeCurves_any _ n0 _ l0 _ n1 _ l1 _ m0 y0o20.sl g0 m1 y1o20.sl g1).mono ?_
  rintro e w21 ⟨⟨AH, cH, rfl, oH, iH⟩, C21⟩
  have z21 := C21.size
  have Wo21 := Wo20.below C21
  have Go21 := Go20.below C21
  have y0o21 := y0o20.below C21
  have y1o21 := y1o20.below C21
  have B21 := B20.trans (C21.mono B20.size)
  have HU := oH.und
  have HO := oH.over
  go_wp2_with fail
  refine (eqKnotS_yes _ _ _ _ _ (mComposeCurvesL n0 l0 n1 l1) _ (by omega) oH.sl Wo21.sl).mono ?_
  rintro e w22 ⟨rfl, C22⟩
  have z22 := C22.size
  have Wo22 := Wo21.below C22
  have Go22 := Go21.below C22
  have Ho22 := oH.below C22
  have B22 := B21.trans (C22.mono B21.size)
  go_wp2_with fail
  refine (heldKnotS_any _ (mComposeCurvesN n0 l0 n1 l1) _ 1 (KnotC (mComposeCurvesL n0 l0 n1 l1)) _ (by omega) (by omega) (by omega) Go22.sl).mono ?_
  rintro e w23 ⟨rfl, C23⟩
  have z23 := C23.size
  have Go23 := Go22.below C23
  have B23 := B22.trans (C23.mono B22.size)
  go_wp2_with fail
  go_ret
  exact ⟨rfl, B23⟩

end Go.Proofs.Ytjomlcjchndkeaa
