/- FnCurves returns true at every input. Conditions: those that the arguments meet. -/
import Derived.Test.YtjomlcjchndkeaaDrawCurve
import Derived.Test.YtjomlcjchndkeaaCurvesLaw
import Derived.Test.YtjomlcjchndkeaaB10
import Derived.Test.YtjomlcjchndkeaaTail
import Derived.Test.YtjomlcjchndkeaaCurveFns
import Derived.Deep.DeepCutAuto
namespace Go.Proofs.Ytjomlcjchndkeaa
open Go.RowKit Go.Lib Go.Ks
theorem curve_knots {n : Nat} {l : Nat → KnotD} (h : CurveOk n l) : ∀ k, k < n → KnotOk (l k) := fun k hk => by
  obtain ⟨a, b⟩ := curve_in h hk
  obtain ⟨c, d⟩ := curve_out h hk
  exact ⟨by omega, by omega⟩
theorem curve_at {A : Option Addr} {n c : Nat} {l : Nat → KnotD} {x y : Int} (w : World) (ok : CurveOk n l) (hs : Sl w A (n * 2) (KnotC l)) (hx : 0 ≤ x ∧ x ≤ 1000) (hy : curveVal n l x = y) :
    Calls Try.prog 23 #[.slice A n c, .int .i64 x] w fun e w' => e = .returned (.tuple #[.int .i64 y, .int .i64 0]) ∧ Below w.heap.size w w' := by
  have h := implCurveAt_any A n c l x w (by have := ok.2.1; omega) hs (curve_knots ok) (by omega)
  obtain ⟨e1, e2⟩ := cAt_in (curveOk_yes ok) (inB_iff.2 hx)
  rw [e1, e2, hy] at h
  exact h
theorem valid_at {A : Option Addr} {n c : Nat} {l : Nat → KnotD} (w : World) (ok : CurveOk n l) (hs : Sl w A (n * 2) (KnotC l)) :
    Calls Try.prog 14 #[.slice A n c] w fun e w' => e = .returned (.bool true) ∧ Below w.heap.size w w' := by
  have h := specValidCurve_any A n c l w (by have := ok.2.1; omega) hs (curve_knots ok)
  rw [curveOk_yes ok] at h
  exact h
theorem power_at {x : Int} (w : World) (hx : 1 ≤ x ∧ x ≤ 5) :
    Calls Try.prog 19 #[.int .i64 x] w fun e w' => RetS w w' 45 2 11 (KnotC (mPowerCurveL x)) 0 e ∧ Below w.heap.size w w' := by
  have h := implPowerCurve_any x w (by omega)
  obtain ⟨e1, e2⟩ := mPower_ok (inB_iff.2 hx)
  rw [e1, e2] at h
  exact h
theorem compose_two {A0 A1 : Option Addr} {n0 c0 n1 c1 : Nat} {l0 l1 : Nat → KnotD} (w : World) (h0 : n0 ≤ 20) (s0 : Sl w A0 (n0 * 2) (KnotC l0)) (g0 : ∀ k, k < n0 → KnB (l0 k)) (h1 : n1 ≤ 20) (s1 : Sl w A1 (n1 * 2) (KnotC l1)) (g1 : ∀ k, k < n1 → KnB (l1 k)) :
    Calls Try.prog 27 #[.slice A0 n0 c0, .slice A1 n1 c1] w fun e w' => (∃ (N : Nat) (C : Int), RetS w w' 45 2 N (KnotC (mComposeCurvesL n0 l0 n1 l1)) C e ∧ ((C = 0 ∧ N = 11 ∧ CurveOk n0 l0 ∧ CurveOk n1 l1) ∨ C = 1)) ∧ Below w.heap.size w w' := by
  refine (implComposeCurves_any A0 n0 c0 l0 A1 n1 c1 l1 w (by omega) s0 (fun k hk => (g0 k hk).ok) (by omega) s1 (fun k hk => (g1 k hk).ok)).mono ?_
  rintro e w' ⟨h, hb⟩
  refine ⟨⟨_, _, h, ?_⟩, hb⟩
  by_cases q : curveOk n0 l0 = true ∧ curveOk n1 l1 = true
  · exact .inl ⟨(mCompose_ok q).2, (mCompose_ok q).1, curveOk_of q.1, curveOk_of q.2⟩
  · exact .inr (mCompose_bad q).2
theorem raise_one {A : Option Addr} {n c : Nat} {l : Nat → KnotD} {x : Int} (w : World) (h0 : n ≤ 20) (s0 : Sl w A (n * 2) (KnotC l)) (g0 : ∀ k, k < n → KnB (l k)) (hx : -1 ≤ x ∧ x ≤ 1001) :
    Calls Try.prog 29 #[.slice A n c, .int .i64 x] w fun e w' => (∃ (N : Nat) (C : Int), RetS w w' 45 2 N (KnotC (mRaiseBlackL n l x)) C e ∧ ((C = 0 ∧ N = n ∧ CurveOk n l ∧ 0 ≤ x ∧ x ≤ 1000) ∨ (C ≠ 0 ∧ N = 0))) ∧ Below w.heap.size w w' := by
  refine (implRaiseBlack_any A n c l x w (by omega) s0 (fun k hk => (g0 k hk).ok) (by omega)).mono ?_
  rintro e w' ⟨h, hb⟩
  refine ⟨⟨_, _, h, ?_⟩, hb⟩
  cases q : curveOk n l
  · exact .inr ⟨by rw [(mRaise_bad q).2]; decide, (mRaise_bad q).1⟩
  · cases r : inB x 0 1000
    · exact .inr ⟨by rw [(mRaise_out q r).2]; decide, (mRaise_out q r).1⟩
    · exact .inl ⟨(mRaise_ok q r).2, (mRaise_ok q r).1, curveOk_of q, inB_iff.1 r⟩
theorem own_cells {w : World} {base : Nat} {A : Option Addr} {n : Nat} {L : Nat → KnotD} (h : Own w base 45 2 A (n + 1) (KnotC L)) : ∃ B, A = some ⟨B, 0, none⟩ ∧ B < w.heap.size ∧ ∀ (w' : World) (j : Nat), Below w.heap.size w w' → j < n + 1 → B < w'.heap.size ∧ w'.cell? ⟨B, j * 2, none⟩ = some (.int .i64 (L j).f0) ∧ w'.cell? ⟨B, j * 2 + 1, none⟩ = some (.int .i64 (L j).f1) := by
  rcases h with ⟨_, h0⟩ | ⟨B, ms, h0, rfl, hB, hk, hms, hh⟩
  · omega
  refine ⟨B, rfl, hk.lt, fun w' j hb hj => ?_⟩
  have k := hk.below hb hk.lt
  refine ⟨k.lt, ?_, ?_⟩
  · rw [k.cell, arr_get _ _ _ (by omega), hh _ (by omega), KnotC0]
  · rw [k.cell, arr_get _ _ _ (by omega), hh _ (by omega), KnotC1]
set_option maxRecDepth 100000 in
set_option maxHeartbeats 8000000 in
theorem fnCurves_any (A0 : Option Addr) (n0 c0 : Nat) (l0 : Nat → Int) (A1 : Option Addr) (n1 c1 : Nat) (l1 : Nat → Int) (w : World) (b0 : n0 ≤ 9223372036854775807) (s0 : Sl w A0 (n0 * 1) (ByteC l0)) (g0 : ∀ k, k < n0 → 0 ≤ l0 k ∧ l0 k ≤ 255) (b1 : n1 ≤ 9223372036854775807) (s1 : Sl w A1 (n1 * 1) (ByteC l1)) (g1 : ∀ k, k < n1 → 0 ≤ l1 k ∧ l1 k ≤ 255) :
    Calls Try.prog 9 #[.slice A0 n0 c0, .slice A1 n1 c1] w fun e w' => e = .returned (.bool true) ∧ Below w.heap.size w w' := by
  go_enter Try.func9, Try.ntmps9
  go_wp2_with fail
  refine (b10Long_any A0 n0 c0 _ b0).mono ?_
  rintro e w1 ⟨rfl, HB⟩
  by_cases q0 : 1048576 < n0
  · rw [decide_eq_true q0]
    go_wp2_with fail
    go_ret
    exact ⟨rfl, HB⟩
  rw [decide_eq_false q0]
  go_wp2_with fail
  refine (b10Long_any A1 n1 c1 _ b1).mono ?_
  rintro e w2 ⟨rfl, hb2⟩
  replace HB := HB.trans (hb2.mono HB.size)
  by_cases q1 : 1048576 < n1
  · rw [decide_eq_true q1]
    go_wp2_with fail
    go_ret
    exact ⟨rfl, HB⟩
  rw [decide_eq_false q1]
  have m0 : n0 ≤ 1048576 := by omega
  have m1 : n1 ≤ 1048576 := by omega
  have S0 := Lib.hid s0
  have S1 := Lib.hid s1
  have G0 := Lib.hid g0
  have G1 := Lib.hid g1
  clear q0 q1 s0 s1 g0 g1 hb2
  go_wp2_with fail
  refine (drawCompose_any A0 n0 c0 l0 _ m0 (S0.out.below HB) G0.out).mono ?_
  rintro e w3 ⟨⟨X, a, ca, K, Y, b, cb, J, rfl, ⟨ha, xo, kx⟩, hb, yo, ky⟩, hb3⟩
  replace HB := HB.trans (hb3.mono HB.size)
  have XS := Lib.hid xo.sl
  have YS := Lib.hid yo.sl
  have KX := Lib.hid kx
  have KY := Lib.hid ky
  clear xo yo kx ky hb3
  go_wp2_with fail
  refine (compose_two _ ha XS.out KX.out hb YS.out KY.out).mono ?_
  rintro e w4 ⟨⟨N, C, ⟨Z, cz, rfl, zo, hz⟩, hC⟩, hb4⟩
  replace HB := HB.trans (hb4.mono HB.size)
  have HM := hb4
  have HC := Lib.hid hC
  have ZS := Lib.hid zo.sl
  clear hC zo hz hb4
  go_upto_if 45 with (fail)
  have HW : w4.heap.size = w4.heap.size := rfl
  clear HW
  go_cut [9] (fun _ wr => Below w4.heap.size w4 wr)
  case first =>
    rcases HC.out with ⟨rfl, rfl, okA, okB⟩ | rfl
    · have OA := Lib.hid okA
      have OB := Lib.hid okB
      have OC := Lib.hid (compose_ok okA okB)
      clear okA okB
      go_wp2_with fail
      refine (b10At_any A1 n1 c1 l1 0 11 _ m1 (by omega) (by decide) (S1.out.below HB) G1.out).mono ?_
      rintro e w5 ⟨⟨x, rfl, x1, x2⟩, hb5⟩
      obtain ⟨m, rfl⟩ := Int.eq_ofNat_of_zero_le x1
      have hm : m ≤ 10 := by omega
      have wr1 : IntKind.i64.wrap (100 * (m : Int)) = 100 * (m : Int) := by rw [IntKind.wrap_i64]; omega
      obtain ⟨u, hu⟩ : ∃ u, curveVal a K (100 * (m : Int)) = u := ⟨_, rfl⟩
      obtain ⟨v, hv⟩ : ∃ v, curveVal b J u = v := ⟨_, rfl⟩
      have ub : 0 ≤ u ∧ u ≤ 1000 := by rw [← hu]; exact curveVal_bd OA.out (by omega)
      have HU := Lib.hid hu
      have HV := Lib.hid hv
      have HWW := Lib.hid (show curveVal 11 (mComposeCurvesL a K b J) (100 * (m : Int)) = v by rw [← hv, ← hu]; exact compose_at hm)
      clear hu hv
      have B5 := HM.trans (hb5.mono HM.size)
      go_wp2_with fail
      refine (curve_at (y := u) _ OA.out (XS.out.below B5) ⟨by omega, by omega⟩ HU.out).mono ?_
      rintro e w6 ⟨rfl, hb6⟩
      have B6 := B5.trans (hb6.mono B5.size)
      go_wp2_with fail
      refine (curve_at (y := v) _ OB.out (YS.out.below B6) ub HV.out).mono ?_
      rintro e w7 ⟨rfl, hb7⟩
      have B7 := B6.trans (hb7.mono B6.size)
      have C7 := hb5.trans ((hb6.trans (hb7.mono hb6.size)).mono hb5.size)
      go_wp2_with fail
      refine (curve_at (y := v) _ OC.out (ZS.out.below C7) ⟨by omega, by omega⟩ HWW.out).mono ?_
      rintro e w8 ⟨rfl, hb8⟩
      have C8 := C7.trans (hb8.mono C7.size)
      go_wp2_with fail
      refine (valid_at _ OC.out (ZS.out.below C8)).mono ?_
      rintro e w9 ⟨rfl, hb9⟩
      have C9 := C8.trans (hb9.mono C8.size)
      go_wp2_with fail
      go_meet
      exact C9
    · go_wp2_with fail
      go_meet
      exact Below.refl _ _
  obtain ⟨w5, rfl⟩ : ∃ q : World, q = wc := ⟨_, rfl⟩
  replace HB := HB.trans (hcut.mono HB.size)
  clear hcut HM ZS HC XS YS KX KY ha hb
  go_wp2_with fail
  refine (b10At_any A1 n1 c1 l1 1 4 _ m1 (by omega) (by decide) (S1.out.below HB) G1.out).mono ?_
  rintro e w6 ⟨⟨x, rfl, x1, x2⟩, hb6⟩
  replace HB := HB.trans (hb6.mono HB.size)
  have wr1 : IntKind.i64.wrap (1 + x) = 1 + x := by rw [IntKind.wrap_i64]; omega
  have wr2 : IntKind.i64.wrap (1 + x + 1) = 1 + x + 1 := by rw [IntKind.wrap_i64]; omega
  clear hb6
  go_wp2_with fail
  refine (power_at (x := 1 + x) _ (by omega)).mono ?_
  rintro e w7 ⟨⟨P, cp, rfl, po, hz⟩, hb7⟩
  replace HB := HB.trans (hb7.mono HB.size)
  clear hb7 hz
  go_wp2_with fail
  refine (power_at (x := 1 + x + 1) _ (by omega)).mono ?_
  rintro e w8 ⟨⟨Q, cq, rfl, qo, hz⟩, hb8⟩
  replace HB := HB.trans (hb8.mono HB.size)
  have po8 := po.below hb8
  clear hb8 hz po wr1 wr2
  go_wp2_with fail
  refine (valid_at _ (power_ok _) po8.sl).mono ?_
  rintro e w9 ⟨rfl, hb9⟩
  replace HB := HB.trans (hb9.mono HB.size)
  have po9 := po8.below hb9
  have qo9 := qo.below hb9
  clear hb9 po8 qo
  go_wp2_with fail
  refine (valid_at _ (power_ok _) qo9.sl).mono ?_
  rintro e w10 ⟨rfl, hb10⟩
  replace HB := HB.trans (hb10.mono HB.size)
  obtain ⟨bp, rfl, hbp, cP⟩ := own_cells (n := 10) (po9.below hb10)
  obtain ⟨bq, rfl, hbq, cQ⟩ := own_cells (n := 10) (qo9.below hb10)
  have CP := Lib.hid cP
  have CQ := Lib.hid cQ
  clear hb10 po9 qo9 cP cQ
  go_wp2_with fail
  go_loopw [21] (fun i wr => ∃ k : Nat, k ≤ 11 ∧ i = .int .i64 (k : Int) ∧ Below w10.heap.size w10 wr) (fun i _ => 11 - (intOf i).toNat)
  case atStart => exact ⟨0, by omega, rfl, Below.refl _ _⟩
  case round =>
    obtain ⟨k, hk, rfl, hbl⟩ := hrel
    by_cases hlt : k < 11
    · have hlt' : (k : Int) < 11 := by omega
      obtain ⟨bp1, _, dp⟩ := CP.out wr k hbl hlt
      obtain ⟨bq1, _, dq⟩ := CQ.out wr k hbl hlt
      have le := power_less (x := 1 + x) (by omega) hlt
      have np : ¬ (mPowerCurveL (1 + x) k).f1 < (mPowerCurveL (1 + x + 1) k).f1 := by omega
      have nd : decide ((mPowerCurveL (1 + x) k).f1 < (mPowerCurveL (1 + x + 1) k).f1) = false := decide_eq_false np
      clear le
      go_wp2_with fail
      refine wp_region_ext (by kernel_rfl) (by kernel_rfl) ?_
      repeat (go_big_quiet_step (fail))
      refine wpQuiet_nil ?_
      intro e11
      have hb11 := e11.below
      generalize e11.val = w11 at *
      go_wp2_with fail
      go_roundw
      case rel => exact ⟨k + 1, by omega, by go_num, hbl.trans (hb11.mono hbl.size)⟩
      case measure => simp [intOf]; omega
    · obtain rfl : k = 11 := by omega
      replace HB := HB.trans (hbl.mono HB.size)
      clear CP CQ hbp hbq hbl hlt hk x1 x2
      go_wp2_with fail
      refine (drawRaise_any A1 n1 c1 l1 _ m1 (S1.out.below HB) G1.out).mono ?_
      rintro e w12 ⟨⟨X, a, ca, K, v, rfl, ⟨ha, xo, kx⟩, hv⟩, hb12⟩
      replace HB := HB.trans (hb12.mono HB.size)
      clear hb12
      go_wp2_with fail
      refine (raise_one _ ha xo.sl kx hv).mono ?_
      rintro e w13 ⟨⟨N, C, ⟨Z, cz, rfl, zo, hz⟩, hC⟩, hb13⟩
      replace HB := HB.trans (hb13.mono HB.size)
      have xo13 := xo.below hb13
      clear hb13 hz xo kx
      rcases hC with ⟨rfl, rfl, ok, v0, v1⟩ | ⟨hC, rfl⟩
      · have OK := Lib.hid ok
        have n1' := ok.2.1
        have n2' := ok.1
        clear ok hv
        go_wp2_with fail
        refine (valid_at _ (raise_ok OK.out v0 v1) zo.sl).mono ?_
        rintro e w14 ⟨rfl, hb14⟩
        replace HB := HB.trans (hb14.mono HB.size)
        obtain ⟨M, rfl⟩ : ∃ M, N = M + 1 := ⟨N - 1, by omega⟩
        obtain ⟨bx, rfl, hbx, cX⟩ := own_cells (xo13.below hb14)
        obtain ⟨bz, rfl, hbz, cZ⟩ := own_cells (zo.below hb14)
        have CX := Lib.hid cX
        have CZ := Lib.hid cZ
        clear cX cZ hb14 zo xo13
        have hM : M + 1 ≤ 16 := n1'
        go_wp2_with fail
        go_loopw [26] (fun i wr => ∃ k : Nat, k ≤ M + 1 ∧ i = .int .i64 (k : Int) ∧ Below w14.heap.size w14 wr) (fun i _ => M + 1 - (intOf i).toNat)
        case atStart => exact ⟨0, by omega, rfl, Below.refl _ _⟩
        case round =>
          obtain ⟨k, hk, rfl, hbl⟩ := hrel
          by_cases hlt : k < M + 1
          · have hlt' : (k : Int) < (M : Int) + 1 := by omega
            obtain ⟨bx1, dx0, dx1⟩ := CX.out wr k hbl hlt
            obtain ⟨bz1, dz0, dz1⟩ := CZ.out wr k hbl hlt
            obtain ⟨o0, o1⟩ := curve_out OK.out hlt
            obtain ⟨r1, r2, _⟩ := raise_bd o0 o1 v0 v1
            have e0 : (mRaiseBlackL (M + 1) K v k).f0 = (K k).f0 := rfl
            rw [e0] at dz0
            have e1 : (mRaiseBlackL (M + 1) K v k).f1 = v + divr ((K k).f1 * (1000 - v)) 1000 := rfl
            rw [e1] at dz1
            generalize v + divr ((K k).f1 * (1000 - v)) 1000 = R at *
            clear e0 e1
            have np1 : ¬ R < v := by omega
            have np2 : ¬ R < (K k).f1 := by omega
            have nd1 : decide (R < v) = false := decide_eq_false np1
            have nd2 : decide (R < (K k).f1) = false := decide_eq_false np2
            clear r1 r2
            go_wp2_with fail
            refine wp_region_ext (by kernel_rfl) (by kernel_rfl) ?_
            repeat (go_big_quiet_step (fail))
            refine wpQuiet_nil ?_
            intro e15
            have hb15 := e15.below
            generalize e15.val = w15 at *
            go_wp2_with fail
            go_roundw
            case rel => exact ⟨k + 1, by omega, by go_num, hbl.trans (hb15.mono hbl.size)⟩
            case measure => simp [intOf]; omega
          · obtain rfl : k = M + 1 := by omega
            replace HB := HB.trans (hbl.mono HB.size)
            go_wp2_with fail
            go_ret
            exact ⟨rfl, HB⟩
      · go_wp2_with fail
        go_ret
        exact ⟨rfl, HB⟩
end Go.Proofs.Ytjomlcjchndkeaa
