/- FnExactValidCurve returns true at every input. No condition. -/
import Derived.Test.YtjomlcjchndkeaaCurve
import Derived.Test.YtjomlcjchndkeaaSKnot
namespace Go.Proofs.Ytjomlcjchndkeaa
open Go.RowKit Go.Lib Go.Ks

theorem specValidCurve_any (A : Option Addr) (n c : Nat) (l : Nat → KnotD) (w : World) (hn2 : n ≤ 1048576) (hs : Sl w A (n * 2) (KnotC l)) :
    Calls Try.prog 14 #[.slice A n c] w fun e w' => e = .returned (.bool (curveOk n l)) ∧ Below w.heap.size w w' := by
  go_enter Try.func14, Try.ntmps14
  go_wp2_with fail
  refine (l12Ok_any _ _ _ l _ hn2 hs).mono ?_
  rintro e w1 ⟨rfl, hb⟩
  go_wp2_with fail
  go_ret
  exact ⟨rfl, hb⟩

set_option maxHeartbeats 1000000 in
theorem lawValidCurve (A : Option Addr) (n c : Nat) (l : Nat → KnotD) (w : World) (hn : n ≤ 9223372036854775807) (hs : Sl w A (n * 2) (KnotC l)) :
    Calls Try.prog 3 #[.slice A n c] w fun e w' => e = .returned (.bool true) ∧ Below w.heap.size w w' := by
  go_enter Try.func3, Try.ntmps3
  go_wp2_with fail
  refine (szKnotS_any _ _ _ _ hn (by omega) (by omega) _).mono ?_
  rintro e w1 ⟨⟨r, rfl, hr⟩, hb1⟩
  rcases hr with rfl | ⟨h0, h1, h2⟩
  · go_wp2_with fail
    go_ret
    exact ⟨rfl, hb1⟩
  have hn2 : n ≤ 1048576 := by omega
  clear h1
  go_wp2_with fail
  refine (toKnotS_any _ _ _ l _ hn2 (hs.below hb1)).mono ?_
  rintro e w2 ⟨rfl, hb2, hk2⟩
  have hb2 := hb1.trans (hb2.mono hb1.size)
  go_wp2_with fail
  refine (specValidCurve_any _ _ _ l _ hn2 (hk2.sl_arr (Nat.le_refl _))).mono ?_
  rintro e w3 ⟨rfl, hb3⟩
  have hb3 := hb2.trans (hb3.mono hb2.size)
  go_wp2_with fail
  refine (toKnotS_any _ _ _ l _ hn2 (hs.below hb3)).mono ?_
  rintro e w4 ⟨rfl, hb4, hk4⟩
  have hx4 := hk4.sl_arr (Nat.le_refl (n * 2))
  have hb4 := hb3.trans (hb4.mono hb3.size)
  go_wp2_with fail
  refine (validCurve_any _ _ _ l _ hn2 hx4).mono ?_
  rintro e w5 ⟨rfl, hb5⟩
  have hx5 := hx4.below hb5
  have hb5 := hb4.trans (hb5.mono hb4.size)
  go_wp2_with fail
  refine (toKnotS_any _ _ _ l _ hn2 (hs.below hb5)).mono ?_
  rintro e w6 ⟨rfl, hb6, hk6⟩
  have hx6 := hx5.below hb6
  have hb6 := hb5.trans (hb6.mono hb5.size)
  go_wp2_with fail
  refine (eqKnotS_yes _ _ _ _ _ l _ hn hx6 (hk6.sl_arr (Nat.le_refl _))).mono ?_
  rintro e w7 ⟨rfl, hb7⟩
  have hb7 := hb6.trans (hb7.mono hb6.size)
  go_wp2_with fail
  go_ret
  exact ⟨rfl, hb7⟩
end Go.Proofs.Ytjomlcjchndkeaa
