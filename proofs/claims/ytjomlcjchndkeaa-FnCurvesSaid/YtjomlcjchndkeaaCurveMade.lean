/- Curves that are made: powers, two curves in one, a raised black. Conditions: the slices read as knots. -/
import Derived.Test.YtjomlcjchndkeaaCurveAt
import Derived.Test.YtjomlcjchndkeaaAppend
import Derived.Test.YtjomlcjchndkeaaTail
import Derived.Test.YtjomlcjchndkeaaSKnot
namespace Go.Proofs.Ytjomlcjchndkeaa
open Go.RowKit Go.Lib Go.Ks

theorem Try.infoKnot : (Try.prog.info? 45).map (fun i => (i.zero, i.size, i.bytes)) = some (some (.agg #[.int .i64 0, .int .i64 0]), 2, 16) := by kernel_rfl
theorem knot_one (l : Nat → KnotD) (n j : Nat) (hj : j < 2) : (KnotC l (n * 2 + j)).oneCell' = true := by
  match j, hj with
  | 0, _ => rw [Nat.add_zero, KnotC0]; rfl
  | 1, _ => rw [KnotC1]; rfl

def pw (x : Int) : Nat → Int
  | 0 => 1000
  | k + 1 => divr (pw x k * x) 1000
theorem pw_bd {x : Int} (h0 : 0 ≤ x) (h1 : x ≤ 1000) : ∀ k, 0 ≤ pw x k ∧ pw x k ≤ 1000
  | 0 => ⟨(by unfold pw; omega), (by unfold pw; omega)⟩
  | k + 1 => by
    have h := pw_bd h0 h1 k
    have hm := mul_bd (a := pw x k) (b := x) (m := 1000) (n := 1000) (by omega) (by omega) h0 h1 (by omega)
    have h2 : 0 ≤ pw x k * x := Int.mul_nonneg h.1 h0
    have e1 := divr_nonneg (b := 1000) (by omega) h2
    have e2 := divr_mono (b := 1000) (a := pw x k * x) (a' := 1000 * 1000) (by omega) (by omega)
    rw [divr_mul (by omega)] at e2
    exact ⟨e1, e2⟩
def mPowerCurveN (x : Int) : Nat := if inB x 1 5 = true then 11 else 0
def mPowerCurveL (x : Int) : Nat → KnotD := fun i => ⟨100 * (i : Int), pw (100 * (i : Int)) x.toNat⟩
def mPowerCurveC (x : Int) : Int := if inB x 1 5 = true then 0 else 2
theorem mPowerCurve_len (x : Int) : mPowerCurveN x ≤ 1048576 := by unfold mPowerCurveN; split <;> omega
theorem mPower_bad {x : Int} (h : inB x 1 5 = false) : mPowerCurveN x = 0 ∧ mPowerCurveC x = 2 := by simp [mPowerCurveN, mPowerCurveC, h]
theorem mPower_ok {x : Int} (h : inB x 1 5 = true) : mPowerCurveN x = 11 ∧ mPowerCurveC x = 0 := by simp [mPowerCurveN, mPowerCurveC, h]
theorem retS {w w' : World} {e : TypeId} {size n n' : Nat} {f : Nat → Value} {code code' : Int} {A : Option Addr} {c : Nat} (hn : n = n') (hc : code = code') (h : Own w' w.heap.size e size A n f) (hz : A = none → c = 0) :
    RetS w w' e size n' f code' (.returned (.tuple #[.slice A n c, .int .i64 code])) := by
  subst hn; subst hc; exact ⟨A, c, rfl, h, hz⟩

set_option maxHeartbeats 1000000 in
theorem specPowerCurve_any (x : Int) (w : World) (_hx : -9223372036854775808 ≤ x ∧ x ≤ 9223372036854775807) :
    Calls Try.prog 18 #[.int .i64 x] w fun e w' => RetS w w' 45 2 (mPowerCurveN x) (KnotC (mPowerCurveL x)) (mPowerCurveC x) e ∧ Below w.heap.size w w' := by
  cases r : inB x 1 5
  · have E := Lib.hid (mPower_bad r)
    go_enter Try.func18, Try.ntmps18
    go_wp2_with fail
    refine (l00In_any _ _ _ _).mono ?_
    rintro e w1 ⟨rfl, hb1⟩
    go_wp2_with fail
    go_ret2
    exact ⟨retS E.out.1.symm E.out.2.symm (Own.nil _ _ _ _ _) (fun _ => rfl), hb1⟩
  · have E := Lib.hid (mPower_ok r)
    have hx1 := (inB_iff.1 r)
    obtain ⟨x1, x2⟩ := hx1
    obtain ⟨i0, hi, hz0, hz1, hz2⟩ := info_parts Try.infoKnot
    go_enter Try.func18, Try.ntmps18
    go_wp2_with fail
    refine (l00In_any _ _ _ _).mono ?_
    rintro e w1 ⟨rfl, hb1⟩
    go_wp2_with fail
    clear r
    go_loopw [4, 5, 6, 7] (fun v i o q wr => ∃ k : Nat, k ≤ 11 ∧ i = .int .i64 (100 * (k : Int)) ∧ Row wr w.heap.size 45 2 v k (KnotC (mPowerCurveL x)) ∧ Below w.heap.size w wr) (fun _ i _ _ _ => 1100 - (intOf i).toNat)
    case atStart => exact ⟨0, by omega, rfl, (Row.empty _ _ _ _ (by have := hb1.size; omega)), hb1.alloc hb1.size _⟩
    case round =>
      obtain ⟨k, hk, rfl, hrow, hbl⟩ := hrel
      by_cases hlt : k < 11
      · have hd : decide (100 * (k : Int) ≤ 1000) = true := by simp; omega
        go_wp2_with fail
        clear hd
        obtain ⟨wo, rfl⟩ : ∃ wo : World, wo = wr := ⟨_, rfl⟩
        go_loopw [6, 7] (fun o i wr => ∃ j : Nat, (j : Int) ≤ x ∧ i = .int .i64 j ∧ o = .int .i64 (pw (100 * (k : Int)) j) ∧ Below wo.heap.size wo wr) (fun _ i _ => (x - intOf i).toNat)
        case atStart => exact ⟨0, by omega, rfl, rfl, Below.refl _ _⟩
        case round =>
          obtain ⟨j, hj, rfl, rfl, hbi⟩ := hrel
          have pb := pw_bd (x := 100 * (k : Int)) (by omega) (by omega) j
          have pm := mul_bd (a := pw (100 * (k : Int)) j) (b := 100 * (k : Int)) (m := 1000) (n := 1000) (by omega) (by omega) (by omega) (by omega) (by omega)
          obtain ⟨pb1, pb2⟩ := pb
          obtain ⟨pm1, pm2⟩ := pm
          by_cases hjx : (j : Int) < x
          · go_wp2_with fail
            refine (l01Div_any _ _ (by omega) (by omega) (by omega) (by omega) _).mono ?_
            rintro e w3 ⟨rfl, hb3⟩
            have hb4 := hbi.trans (hb3.mono hbi.size)
            go_wp2_with fail
            go_roundw
            case rel => exact ⟨j + 1, by omega, by go_num, rfl, hb4⟩
            case measure => simp [intOf]; omega
          · have hjx' : j = x.toNat := by omega
            have HJ := Lib.hid hjx'
            clear hjx'
            have hrow2 := hrow.below hbi
            have hbl2 := hbl.trans (hbi.mono hbl.size)
            have hsz := hbl2.size
            go_wp2_with (at_builtin; refine wpList_append_row rfl _ _ 25 rfl w.heap.size 45 i0 _ 2 16 Try.underlying25 hi hz0 hz1 hz2 rfl (by decide) _ k (KnotC (mPowerCurveL x)) rfl (hrow2.alloc _) wr.heap.size 1 rfl ?c1 (knot_one _ k) ?c3 ?c4 ?c5 ?_)
            case c1 =>
              intro j hj
              match j, hj with
              | 0, _ => rw [Nat.add_zero, KnotC0]; simp; rfl
              | 1, _ => rw [KnotC1]; simp; unfold mPowerCurveL; rw [HJ.out]
            case c3 => omega
            case c4 => omega
            case c5 => first | omega | (simp; omega)
            intro v' w5 hrow5 hg5
            have hbl5 := Row.after (hbl2.alloc hsz _) (Nat.le_refl _) (by simp; omega) (hrow2.alloc _) hg5 hrow5
            clear hg5
            go_wp2_with fail
            go_roundw
            case rel => exact ⟨k + 1, by omega, ret_num (by omega), hrow5, hbl5⟩
            case measure => simp [intOf]; omega
      · obtain rfl : k = 11 := by omega
        obtain ⟨A, c, rfl, _, hown, hz⟩ := hrow.own
        go_wp2_with fail
        go_ret2
        exact ⟨retS E.out.1.symm E.out.2.symm hown hz, hbl⟩

set_option maxHeartbeats 1000000 in
theorem implPowerCurve_any (x : Int) (w : World) (_hx : -9223372036854775808 ≤ x ∧ x ≤ 9223372036854775807) :
    Calls Try.prog 19 #[.int .i64 x] w fun e w' => RetS w w' 45 2 (mPowerCurveN x) (KnotC (mPowerCurveL x)) (mPowerCurveC x) e ∧ Below w.heap.size w w' := by
  cases r : inB x 1 5
  · have E := Lib.hid (mPower_bad r)
    go_enter Try.func19, Try.ntmps19
    go_wp2_with fail
    refine (within_any _ _ _ _).mono ?_
    rintro e w1 ⟨rfl, hb1⟩
    go_wp2_with fail
    go_ret2
    exact ⟨retS E.out.1.symm E.out.2.symm (Own.nil _ _ _ _ _) (fun _ => rfl), hb1⟩
  · have E := Lib.hid (mPower_ok r)
    have hx1 := (inB_iff.1 r)
    obtain ⟨x1, x2⟩ := hx1
    obtain ⟨i0, hi, hz0, hz1, hz2⟩ := info_parts Try.infoKnot
    go_enter Try.func19, Try.ntmps19
    go_wp2_with fail
    refine (within_any _ _ _ _).mono ?_
    rintro e w1 ⟨rfl, hb1⟩
    go_wp2_with fail
    clear r
    go_loopw [4, 5, 6, 15, 14] (fun v i o q b wr => ∃ k : Nat, k ≤ 11 ∧ i = .int .i64 (100 * (k : Int)) ∧ Row wr w.heap.size 45 2 v k (KnotC (mPowerCurveL x)) ∧ Below w.heap.size w wr) (fun _ i _ _ _ _ => 1100 - (intOf i).toNat)
    case atStart => exact ⟨0, by omega, rfl, (Row.nil _ _ _ _ _), hb1⟩
    case round =>
      obtain ⟨k, hk, rfl, hrow, hbl⟩ := hrel
      by_cases hlt : k < 11
      · have hd : decide (100 * (k : Int) ≤ 1000) = true := by simp; omega
        go_wp2_with fail
        clear hd
        obtain ⟨wo, rfl⟩ : ∃ wo : World, wo = wr := ⟨_, rfl⟩
        go_loopw [6, 15] (fun o i wr => ∃ j : Nat, (j : Int) ≤ x ∧ i = .int .i64 j ∧ o = .int .i64 (pw (100 * (k : Int)) j) ∧ Below wo.heap.size wo wr) (fun _ i _ => (x - intOf i).toNat)
        case atStart => exact ⟨0, by omega, rfl, rfl, Below.refl _ _⟩
        case round =>
          obtain ⟨j, hj, rfl, rfl, hbi⟩ := hrel
          have pb := pw_bd (x := 100 * (k : Int)) (by omega) (by omega) j
          have pm := mul_bd (a := pw (100 * (k : Int)) j) (b := 100 * (k : Int)) (m := 1000) (n := 1000) (by omega) (by omega) (by omega) (by omega) (by omega)
          obtain ⟨pb1, pb2⟩ := pb
          obtain ⟨pm1, pm2⟩ := pm
          by_cases hjx : (j : Int) < x
          · go_wp2_with fail
            refine (nearest_any _ _ (by omega) (by omega) (by omega) (by omega) _).mono ?_
            rintro e w3 ⟨rfl, hb3⟩
            have hb4 := hbi.trans (hb3.mono hbi.size)
            go_wp2_with fail
            go_roundw
            case rel => exact ⟨j + 1, by omega, by go_num, rfl, hb4⟩
            case measure => simp [intOf]; omega
          · have hjx' : j = x.toNat := by omega
            have HJ := Lib.hid hjx'
            clear hjx'
            have hrow2 := hrow.below hbi
            have hbl2 := hbl.trans (hbi.mono hbl.size)
            have hsz := hbl2.size
            go_wp2_with (at_builtin; refine wpList_append_row rfl _ _ 25 rfl w.heap.size 45 i0 _ 2 16 Try.underlying25 hi hz0 hz1 hz2 rfl (by decide) _ k (KnotC (mPowerCurveL x)) rfl (hrow2.alloc _) wr.heap.size 1 rfl ?c1 (knot_one _ k) ?c3 ?c4 ?c5 ?_)
            case c1 =>
              intro j hj
              match j, hj with
              | 0, _ => rw [Nat.add_zero, KnotC0]; simp; rfl
              | 1, _ => rw [KnotC1]; simp; unfold mPowerCurveL; rw [HJ.out]
            case c3 => omega
            case c4 => omega
            case c5 => first | omega | (simp; omega)
            intro v' w5 hrow5 hg5
            have hbl5 := Row.after (hbl2.alloc hsz _) (Nat.le_refl _) (by simp; omega) (hrow2.alloc _) hg5 hrow5
            clear hg5
            go_wp2_with fail
            go_roundw
            case rel => exact ⟨k + 1, by omega, ret_num (by omega), hrow5, hbl5⟩
            case measure => simp [intOf]; omega
      · obtain rfl : k = 11 := by omega
        obtain ⟨A, c, rfl, _, hown, hz⟩ := hrow.own
        go_wp2_with fail
        go_ret2
        exact ⟨retS E.out.1.symm E.out.2.symm hown hz, hbl⟩

noncomputable def mComposeCurvesN (n0 : Nat) (l0 : Nat → KnotD) (n1 : Nat) (l1 : Nat → KnotD) : Nat := if curveOk n0 l0 = true ∧ curveOk n1 l1 = true then 11 else 0
noncomputable def mComposeCurvesL (n0 : Nat) (l0 : Nat → KnotD) (n1 : Nat) (l1 : Nat → KnotD) : Nat → KnotD := fun i => ⟨100 * (i : Int), curveVal n1 l1 (curveVal n0 l0 (100 * (i : Int)))⟩
noncomputable def mComposeCurvesC (n0 : Nat) (l0 : Nat → KnotD) (n1 : Nat) (l1 : Nat → KnotD) : Int := if curveOk n0 l0 = true ∧ curveOk n1 l1 = true then 0 else 1
theorem mComposeCurves_len (n0 : Nat) (l0 : Nat → KnotD) (n1 : Nat) (l1 : Nat → KnotD) : mComposeCurvesN n0 l0 n1 l1 ≤ 1048576 := by unfold mComposeCurvesN; split <;> omega
theorem mCompose_bad {n0 : Nat} {l0 : Nat → KnotD} {n1 : Nat} {l1 : Nat → KnotD} (h : ¬ (curveOk n0 l0 = true ∧ curveOk n1 l1 = true)) : mComposeCurvesN n0 l0 n1 l1 = 0 ∧ mComposeCurvesC n0 l0 n1 l1 = 1 := ⟨if_neg h, if_neg h⟩
theorem mCompose_ok {n0 : Nat} {l0 : Nat → KnotD} {n1 : Nat} {l1 : Nat → KnotD} (h : curveOk n0 l0 = true ∧ curveOk n1 l1 = true) : mComposeCurvesN n0 l0 n1 l1 = 11 ∧ mComposeCurvesC n0 l0 n1 l1 = 0 := ⟨if_pos h, if_pos h⟩

set_option maxHeartbeats 1000000 in
theorem specComposeCurves_any (A0 : Option Addr) (n0 c0 : Nat) (l0 : Nat → KnotD) (A1 : Option Addr) (n1 c1 : Nat) (l1 : Nat → KnotD) (w : World) (hn0 : n0 ≤ 1048576) (s0 : Sl w A0 (n0 * 2) (KnotC l0)) (_g0 : ∀ k, k < n0 → KnotOk (l0 k)) (hn1 : n1 ≤ 1048576) (s1 : Sl w A1 (n1 * 2) (KnotC l1)) (_g1 : ∀ k, k < n1 → KnotOk (l1 k)) :
    Calls Try.prog 26 #[.slice A0 n0 c0, .slice A1 n1 c1] w fun e w' => RetS w w' 45 2 (mComposeCurvesN n0 l0 n1 l1) (KnotC (mComposeCurvesL n0 l0 n1 l1)) (mComposeCurvesC n0 l0 n1 l1) e ∧ Below w.heap.size w w' := by
  cases ok0 : curveOk n0 l0
  · have E := Lib.hid (mCompose_bad (n0 := n0) (l0 := l0) (n1 := n1) (l1 := l1) (fun h => by rw [ok0] at h; cases h.1))
    go_enter Try.func26, Try.ntmps26
    go_wp2_with fail
    refine (l12Ok_any _ _ _ l0 _ hn0 s0).mono ?_
    rintro e w1 ⟨rfl, hb1⟩
    go_wp2_with fail
    go_ret2
    exact ⟨retS E.out.1.symm E.out.2.symm (Own.nil _ _ _ _ _) (fun _ => rfl), hb1⟩
  cases ok1 : curveOk n1 l1
  · have E := Lib.hid (mCompose_bad (n0 := n0) (l0 := l0) (n1 := n1) (l1 := l1) (fun h => by rw [ok1] at h; cases h.2))
    go_enter Try.func26, Try.ntmps26
    go_wp2_with fail
    refine (l12Ok_any _ _ _ l0 _ hn0 s0).mono ?_
    rintro e w1 ⟨rfl, hb1⟩
    go_wp2_with fail
    refine (l12Ok_any _ _ _ l1 _ hn1 (s1.below hb1)).mono ?_
    rintro e w2 ⟨rfl, hb2⟩
    have hb3 := hb1.trans (hb2.mono hb1.size)
    go_wp2_with fail
    go_ret2
    exact ⟨retS E.out.1.symm E.out.2.symm (Own.nil _ _ _ _ _) (fun _ => rfl), hb3⟩
  · have E := Lib.hid (mCompose_ok ⟨ok0, ok1⟩)
    have OK0 := curveOk_of ok0
    have OK1 := curveOk_of ok1
    obtain ⟨i0, hi, hz0, hz1, hz2⟩ := info_parts Try.infoKnot
    go_enter Try.func26, Try.ntmps26
    go_wp2_with fail
    refine (l12Ok_any _ _ _ l0 _ hn0 s0).mono ?_
    rintro e w1 ⟨rfl, hb1⟩
    go_wp2_with fail
    refine (l12Ok_any _ _ _ l1 _ hn1 (s1.below hb1)).mono ?_
    rintro e w2 ⟨rfl, hb2⟩
    have hb3 := hb1.trans (hb2.mono hb1.size)
    go_wp2_with fail
    clear ok0 ok1
    go_loopw [6, 7] (fun v i wr => ∃ k : Nat, k ≤ 11 ∧ i = .int .i64 (100 * (k : Int)) ∧ Row wr w.heap.size 45 2 v k (KnotC (mComposeCurvesL n0 l0 n1 l1)) ∧ Below w.heap.size w wr) (fun _ i _ => 1100 - (intOf i).toNat)
    case atStart => exact ⟨0, by omega, rfl, (Row.empty _ _ _ _ (by have := hb3.size; omega)), hb3.alloc hb3.size _⟩
    case round =>
      obtain ⟨k, hk, rfl, hrow, hbl⟩ := hrel
      by_cases hlt : k < 11
      · have v0 := curveVal_bd OK0 (x := 100 * (k : Int)) (by omega)
        go_wp2_with fail
        refine (l12At_any _ n0 _ l0 _ _ OK0 (by omega) (by omega) (s0.below hbl)).mono ?_
        rintro e w4 ⟨rfl, hb4⟩
        have hbl4 := hbl.trans (hb4.mono hbl.size)
        have hrow4 := hrow.below hb4
        go_wp2_with fail
        refine (l12At_any _ n1 _ l1 _ _ OK1 v0.1 v0.2 (s1.below hbl4)).mono ?_
        rintro e w5 ⟨rfl, hb5⟩
        have hbl2 := hbl4.trans (hb5.mono hbl4.size)
        have hrow2 := hrow4.below hb5
        have hsz := hbl2.size
        go_wp2_with (at_builtin; refine wpList_append_row rfl _ _ 25 rfl w.heap.size 45 i0 _ 2 16 Try.underlying25 hi hz0 hz1 hz2 rfl (by decide) _ k (KnotC (mComposeCurvesL n0 l0 n1 l1)) rfl (hrow2.alloc _) w5.heap.size 1 rfl ?c1 (knot_one _ k) ?c3 ?c4 ?c5 ?_)
        case c1 =>
          intro j hj
          match j, hj with
          | 0, _ => rw [Nat.add_zero, KnotC0]; simp; rfl
          | 1, _ => rw [KnotC1]; simp; rfl
        case c3 => omega
        case c4 => omega
        case c5 => simp; omega
        intro v' w6 hrow6 hg6
        have hbl6 := Row.after (hbl2.alloc hsz _) (Nat.le_refl _) (by simp; omega) (hrow2.alloc _) hg6 hrow6
        clear hg6
        go_wp2_with fail
        go_roundw
        case rel => exact ⟨k + 1, by omega, ret_num (by omega), hrow6, hbl6⟩
        case measure => simp [intOf]; omega
      · obtain rfl : k = 11 := by omega
        obtain ⟨A, c, rfl, _, hown, hz⟩ := hrow.own
        go_wp2_with fail
        go_ret2
        exact ⟨retS E.out.1.symm E.out.2.symm hown hz, hbl⟩

set_option maxHeartbeats 1000000 in
theorem implComposeCurves_any (A0 : Option Addr) (n0 c0 : Nat) (l0 : Nat → KnotD) (A1 : Option Addr) (n1 c1 : Nat) (l1 : Nat → KnotD) (w : World) (hn0 : n0 ≤ 1048576) (s0 : Sl w A0 (n0 * 2) (KnotC l0)) (g0 : ∀ k, k < n0 → KnotOk (l0 k)) (hn1 : n1 ≤ 1048576) (s1 : Sl w A1 (n1 * 2) (KnotC l1)) (g1 : ∀ k, k < n1 → KnotOk (l1 k)) :
    Calls Try.prog 27 #[.slice A0 n0 c0, .slice A1 n1 c1] w fun e w' => RetS w w' 45 2 (mComposeCurvesN n0 l0 n1 l1) (KnotC (mComposeCurvesL n0 l0 n1 l1)) (mComposeCurvesC n0 l0 n1 l1) e ∧ Below w.heap.size w w' := by
  cases ok0 : curveOk n0 l0
  · have E := Lib.hid (mCompose_bad (n0 := n0) (l0 := l0) (n1 := n1) (l1 := l1) (fun h => by rw [ok0] at h; cases h.1))
    go_enter Try.func27, Try.ntmps27
    go_wp2_with fail
    refine (validCurve_any _ _ _ l0 _ hn0 s0 g0).mono ?_
    rintro e w1 ⟨rfl, hb1⟩
    go_wp2_with fail
    go_ret2
    exact ⟨retS E.out.1.symm E.out.2.symm (Own.nil _ _ _ _ _) (fun _ => rfl), hb1⟩
  cases ok1 : curveOk n1 l1
  · have E := Lib.hid (mCompose_bad (n0 := n0) (l0 := l0) (n1 := n1) (l1 := l1) (fun h => by rw [ok1] at h; cases h.2))
    go_enter Try.func27, Try.ntmps27
    go_wp2_with fail
    refine (validCurve_any _ _ _ l0 _ hn0 s0 g0).mono ?_
    rintro e w1 ⟨rfl, hb1⟩
    go_wp2_with fail
    refine (validCurve_any _ _ _ l1 _ hn1 (s1.below hb1) g1).mono ?_
    rintro e w2 ⟨rfl, hb2⟩
    have hb3 := hb1.trans (hb2.mono hb1.size)
    go_wp2_with fail
    go_ret2
    exact ⟨retS E.out.1.symm E.out.2.symm (Own.nil _ _ _ _ _) (fun _ => rfl), hb3⟩
  · have E := Lib.hid (mCompose_ok ⟨ok0, ok1⟩)
    have OK0 := curveOk_of ok0
    have OK1 := curveOk_of ok1
    obtain ⟨i0, hi, hz0, hz1, hz2⟩ := info_parts Try.infoKnot
    go_enter Try.func27, Try.ntmps27
    go_wp2_with fail
    refine (validCurve_any _ _ _ l0 _ hn0 s0 g0).mono ?_
    rintro e w1 ⟨rfl, hb1⟩
    go_wp2_with fail
    refine (validCurve_any _ _ _ l1 _ hn1 (s1.below hb1) g1).mono ?_
    rintro e w2 ⟨rfl, hb2⟩
    have hb3 := hb1.trans (hb2.mono hb1.size)
    go_wp2_with fail
    clear ok0 ok1
    go_loopw [6, 7] (fun v i wr => ∃ k : Nat, k ≤ 11 ∧ i = .int .i64 (100 * (k : Int)) ∧ Row wr w.heap.size 45 2 v k (KnotC (mComposeCurvesL n0 l0 n1 l1)) ∧ Below w.heap.size w wr) (fun _ i _ => 1100 - (intOf i).toNat)
    case atStart => exact ⟨0, by omega, rfl, (Row.nil _ _ _ _ _), hb3⟩
    case round =>
      obtain ⟨k, hk, rfl, hrow, hbl⟩ := hrel
      by_cases hlt : k < 11
      · have v0 := curveVal_bd OK0 (x := 100 * (k : Int)) (by omega)
        go_wp2_with fail
        refine (curveAt_any _ n0 _ l0 _ _ OK0 (by omega) (by omega) (s0.below hbl)).mono ?_
        rintro e w4 ⟨rfl, hb4⟩
        have hbl4 := hbl.trans (hb4.mono hbl.size)
        have hrow4 := hrow.below hb4
        go_wp2_with fail
        refine (curveAt_any _ n1 _ l1 _ _ OK1 v0.1 v0.2 (s1.below hbl4)).mono ?_
        rintro e w5 ⟨rfl, hb5⟩
        have hbl2 := hbl4.trans (hb5.mono hbl4.size)
        have hrow2 := hrow4.below hb5
        have hsz := hbl2.size
        go_wp2_with (at_builtin; refine wpList_append_row rfl _ _ 25 rfl w.heap.size 45 i0 _ 2 16 Try.underlying25 hi hz0 hz1 hz2 rfl (by decide) _ k (KnotC (mComposeCurvesL n0 l0 n1 l1)) rfl (hrow2.alloc _) w5.heap.size 1 rfl ?c1 (knot_one _ k) ?c3 ?c4 ?c5 ?_)
        case c1 =>
          intro j hj
          match j, hj with
          | 0, _ => rw [Nat.add_zero, KnotC0]; simp; rfl
          | 1, _ => rw [KnotC1]; simp; rfl
        case c3 => omega
        case c4 => omega
        case c5 => simp; omega
        intro v' w6 hrow6 hg6
        have hbl6 := Row.after (hbl2.alloc hsz _) (Nat.le_refl _) (by simp; omega) (hrow2.alloc _) hg6 hrow6
        clear hg6
        go_wp2_with fail
        go_roundw
        case rel => exact ⟨k + 1, by omega, ret_num (by omega), hrow6, hbl6⟩
        case measure => simp [intOf]; omega
      · obtain rfl : k = 11 := by omega
        obtain ⟨A, c, rfl, _, hown, hz⟩ := hrow.own
        go_wp2_with fail
        go_ret2
        exact ⟨retS E.out.1.symm E.out.2.symm hown hz, hbl⟩

noncomputable def mRaiseBlackN (n : Nat) (l : Nat → KnotD) (x : Int) : Nat := if curveOk n l = true ∧ inB x 0 1000 = true then n else 0
def mRaiseBlackL (_n : Nat) (l : Nat → KnotD) (x : Int) : Nat → KnotD := fun i => ⟨(l i).f0, x + divr ((l i).f1 * (1000 - x)) 1000⟩
noncomputable def mRaiseBlackC (n : Nat) (l : Nat → KnotD) (x : Int) : Int := if curveOk n l = true then (if inB x 0 1000 = true then 0 else 2) else 1
theorem mRaiseBlack_len (n : Nat) (l : Nat → KnotD) (x : Int) : mRaiseBlackN n l x ≤ 1048576 := by
  unfold mRaiseBlackN
  split
  · rename_i h; have := (curveOk_of h.1).2.1; omega
  · omega
theorem mRaise_bad {n : Nat} {l : Nat → KnotD} {x : Int} (h : curveOk n l = false) : mRaiseBlackN n l x = 0 ∧ mRaiseBlackC n l x = 1 := by simp [mRaiseBlackN, mRaiseBlackC, h]
theorem mRaise_out {n : Nat} {l : Nat → KnotD} {x : Int} (h : curveOk n l = true) (h' : inB x 0 1000 = false) : mRaiseBlackN n l x = 0 ∧ mRaiseBlackC n l x = 2 := by simp [mRaiseBlackN, mRaiseBlackC, h, h']
theorem mRaise_ok {n : Nat} {l : Nat → KnotD} {x : Int} (h : curveOk n l = true) (h' : inB x 0 1000 = true) : mRaiseBlackN n l x = n ∧ mRaiseBlackC n l x = 0 := by simp [mRaiseBlackN, mRaiseBlackC, h, h']

set_option maxHeartbeats 1000000 in
theorem specRaiseBlack_any (A : Option Addr) (n c : Nat) (l : Nat → KnotD) (x : Int) (w : World) (hn : n ≤ 1048576) (hs : Sl w A (n * 2) (KnotC l)) (_hg : ∀ k, k < n → KnotOk (l k)) (_hx : -9223372036854775808 ≤ x ∧ x ≤ 9223372036854775807) :
    Calls Try.prog 28 #[.slice A n c, .int .i64 x] w fun e w' => RetS w w' 45 2 (mRaiseBlackN n l x) (KnotC (mRaiseBlackL n l x)) (mRaiseBlackC n l x) e ∧ Below w.heap.size w w' := by
  cases ok : curveOk n l
  · have E := Lib.hid (mRaise_bad (x := x) ok)
    go_enter Try.func28, Try.ntmps28
    go_wp2_with fail
    refine (l12Ok_any _ _ _ l _ hn hs).mono ?_
    rintro e w1 ⟨rfl, hb⟩
    go_wp2_with fail
    go_ret2
    exact ⟨retS E.out.1.symm E.out.2.symm (Own.nil _ _ _ _ _) (fun _ => rfl), hb⟩
  cases lv : inB x 0 1000
  · have E := Lib.hid (mRaise_out ok lv)
    go_enter Try.func28, Try.ntmps28
    go_wp2_with fail
    refine (l12Ok_any _ _ _ l _ hn hs).mono ?_
    rintro e w1 ⟨rfl, hb⟩
    go_wp2_with fail
    refine (l12Level_any _ _).mono ?_
    rintro e w2 ⟨rfl, hb2⟩
    have hb3 := hb.trans (hb2.mono hb.size)
    go_wp2_with fail
    go_ret2
    exact ⟨retS E.out.1.symm E.out.2.symm (Own.nil _ _ _ _ _) (fun _ => rfl), hb3⟩
  have E := Lib.hid (mRaise_ok ok lv)
  have lv' := inB_iff.1 lv
  obtain ⟨x0, x1⟩ := lv'
  have OK := curveOk_of ok
  have n2 := OK.1
  have n16 := OK.2.1
  have n16' : (n : Int) ≤ 16 := by omega
  obtain ⟨i0, hi, hz0, hz1, hz2⟩ := info_parts Try.infoKnot
  go_enter Try.func28, Try.ntmps28
  go_wp2_with fail
  refine (l12Ok_any _ _ _ l _ hn hs).mono ?_
  rintro e w1 ⟨rfl, hb⟩
  go_wp2_with fail
  refine (l12Level_any _ _).mono ?_
  rintro e w2 ⟨rfl, hb2⟩
  have hb3 := hb.trans (hb2.mono hb.size)
  go_wp2_with fail
  clear ok lv
  obtain ⟨b, off, rfl, hbb, hc⟩ := hs (by omega)
  go_loopw [6, 7] (fun v i wr => ∃ k : Nat, k ≤ n ∧ i = .int .i64 k ∧ Row wr w.heap.size 45 2 v k (KnotC (mRaiseBlackL n l x)) ∧ Below w.heap.size w wr) (fun _ i _ => n - (intOf i).toNat)
  case atStart => exact ⟨0, Nat.zero_le _, rfl, (Row.empty _ _ _ _ (by have := hb3.size; omega)), hb3.alloc hb3.size _⟩
  case round =>
    obtain ⟨k, hk, rfl, hrow, hbl⟩ := hrel
    by_cases hlt : k < n
    · have hbr : b < wr.heap.size := by have := hbl.size; omega
      have d0 : wr.cell? ⟨b, off + k * 2, none⟩ = some (.int .i64 (l k).f0) := by rw [hbl.cell (by exact hbb), hc _ (by omega), KnotC0]
      have d1 : wr.cell? ⟨b, off + k * 2 + 1, none⟩ = some (.int .i64 (l k).f1) := by rw [hbl.cell (by exact hbb), Nat.add_assoc, hc _ (by omega), KnotC1]
      have HC := Lib.hid hc
      clear hc
      have co := curve_out OK hlt
      have cm := mul_bd (a := (l k).f1) (b := 1000 - x) (m := 1000) (n := 1000) (by omega) (by omega) (by omega) (by omega) (by omega)
      obtain ⟨co1, co2⟩ := co
      obtain ⟨cm1, cm2⟩ := cm
      have cd := divr_bd (b := 1000) (by omega) cm1 cm2
      obtain ⟨cd1, cd2⟩ := cd
      go_wp2_with fail
      refine wp_region_ext_tail 1 18 (by kernel_rfl) (by kernel_rfl) (fun d _ _ _ _ h => by cases d <;> exact h) ?_
      simp only [List.take_succ_cons, List.take_zero, List.drop_succ_cons, List.drop_zero]
      repeat (go_big_quiet_step ((go_at_call 49; exact quiet_ext (l01Div_any _ _ (by omega) (by omega) (by omega) (by omega) _))))
      refine wpQuiet_nil ?_
      intro e1
      have hb1 := e1.below
      have hbl2 := hbl.trans (hb1.mono hbl.size)
      have hrow2 := hrow.below hb1
      have hsz := hbl2.size
      go_wp2_with (at_builtin; refine wpList_append_row rfl _ _ 25 rfl w.heap.size 45 i0 _ 2 16 Try.underlying25 hi hz0 hz1 hz2 rfl (by decide) _ k (KnotC (mRaiseBlackL n l x)) rfl (hrow2.alloc _) e1.val.heap.size 1 rfl ?c1 (knot_one _ k) ?c3 ?c4 ?c5 ?_)
      case c1 =>
        intro j hj
        match j, hj with
        | 0, _ => rw [Nat.add_zero, KnotC0]; simp; rfl
        | 1, _ => rw [KnotC1]; simp; rfl
      case c3 => omega
      case c4 => omega
      case c5 => simp; omega
      intro v' w6 hrow6 hg6
      have hbl6 := Row.after (hbl2.alloc hsz _) (Nat.le_refl _) (by simp; omega) (hrow2.alloc _) hg6 hrow6
      clear hg6
      go_wp2_with fail
      go_roundw
      case rel => exact ⟨k + 1, by omega, by go_num, hrow6, hbl6⟩
      case measure => simp [intOf]; omega
    · obtain rfl : k = n := by omega
      obtain ⟨A, c, rfl, _, hown, hz⟩ := hrow.own
      go_wp2_with fail
      go_ret2
      exact ⟨retS E.out.1.symm E.out.2.symm hown hz, hbl⟩

set_option maxHeartbeats 1000000 in
theorem implRaiseBlack_any (A : Option Addr) (n c : Nat) (l : Nat → KnotD) (x : Int) (w : World) (hn : n ≤ 1048576) (hs : Sl w A (n * 2) (KnotC l)) (hg : ∀ k, k < n → KnotOk (l k)) (_hx : -9223372036854775808 ≤ x ∧ x ≤ 9223372036854775807) :
    Calls Try.prog 29 #[.slice A n c, .int .i64 x] w fun e w' => RetS w w' 45 2 (mRaiseBlackN n l x) (KnotC (mRaiseBlackL n l x)) (mRaiseBlackC n l x) e ∧ Below w.heap.size w w' := by
  cases ok : curveOk n l
  · have E := Lib.hid (mRaise_bad (x := x) ok)
    go_enter Try.func29, Try.ntmps29
    go_wp2_with fail
    refine (validCurve_any _ _ _ l _ hn hs hg).mono ?_
    rintro e w1 ⟨rfl, hb⟩
    go_wp2_with fail
    go_ret2
    exact ⟨retS E.out.1.symm E.out.2.symm (Own.nil _ _ _ _ _) (fun _ => rfl), hb⟩
  cases lv : inB x 0 1000
  · have E := Lib.hid (mRaise_out ok lv)
    go_enter Try.func29, Try.ntmps29
    go_wp2_with fail
    refine (validCurve_any _ _ _ l _ hn hs hg).mono ?_
    rintro e w1 ⟨rfl, hb⟩
    go_wp2_with fail
    refine (isLevel_any _ _).mono ?_
    rintro e w2 ⟨rfl, hb2⟩
    have hb3 := hb.trans (hb2.mono hb.size)
    go_wp2_with fail
    go_ret2
    exact ⟨retS E.out.1.symm E.out.2.symm (Own.nil _ _ _ _ _) (fun _ => rfl), hb3⟩
  have E := Lib.hid (mRaise_ok ok lv)
  have lv' := inB_iff.1 lv
  obtain ⟨x0, x1⟩ := lv'
  have OK := curveOk_of ok
  have n2 := OK.1
  have n16 := OK.2.1
  have n16' : (n : Int) ≤ 16 := by omega
  obtain ⟨i0, hi, hz0, hz1, hz2⟩ := info_parts Try.infoKnot
  go_enter Try.func29, Try.ntmps29
  go_wp2_with fail
  refine (validCurve_any _ _ _ l _ hn hs hg).mono ?_
  rintro e w1 ⟨rfl, hb⟩
  go_wp2_with fail
  refine (isLevel_any _ _).mono ?_
  rintro e w2 ⟨rfl, hb2⟩
  have hb3 := hb.trans (hb2.mono hb.size)
  go_wp2_with fail
  clear ok lv
  refine (cloneKnot_any _ n _ l _ hn (by omega) (hs.below hb3)).mono ?_
  rintro e w4 ⟨⟨A', c', rfl, hown4, hz4⟩, hb4⟩
  have hbl4 := hb3.trans (hb4.mono hb3.size)
  rcases hown4 with ⟨_, h0⟩ | ⟨B, m, h, rfl, hB, hblk, hm, hf⟩
  · omega
  have hB' : w.heap.size ≤ B := by have := hb3.size; omega
  clear hz4
  go_wp2_with fail
  go_loopw [7, 18] (fun _ i wr => ∃ k : Nat, k ≤ n ∧ i = .int .i64 k ∧ Below w.heap.size w wr ∧ Blk wr B 45 (arr m (fun j => if j < k * 2 then KnotC (mRaiseBlackL n l x) j else h j))) (fun _ i _ => n - (intOf i).toNat)
  case atStart => exact ⟨0, Nat.zero_le _, rfl, hbl4, hblk.congr (fun j _ => by rw [if_neg (by omega)])⟩
  case round =>
    obtain ⟨k, hk, rfl, hbl, hblk⟩ := hrel
    have HF := Lib.hid hf
    clear hf
    by_cases hlt : k < n
    · have hgr : B < wr.heap.size := hblk.lt
      have d0 : wr.cell? ⟨B, k * 2, none⟩ = some (.int .i64 (l k).f0) := by rw [hblk.cell, arr_get _ _ _ (by omega), if_neg (by omega), HF.out _ (by omega), KnotC0]
      have d1 : wr.cell? ⟨B, k * 2 + 1, none⟩ = some (.int .i64 (l k).f1) := by rw [hblk.cell, arr_get _ _ _ (by omega), if_neg (by omega), HF.out _ (by omega), KnotC1]
      have co := curve_out OK hlt
      have cm := mul_bd (a := (l k).f1) (b := 1000 - x) (m := 1000) (n := 1000) (by omega) (by omega) (by omega) (by omega) (by omega)
      obtain ⟨co1, co2⟩ := co
      obtain ⟨cm1, cm2⟩ := cm
      have cd := divr_bd (b := 1000) (by omega) cm1 cm2
      obtain ⟨cd1, cd2⟩ := cd
      go_wp2_with fail
      refine (nearest_any _ _ (by omega) (by omega) (by omega) (by omega) _).mono ?_
      rintro e w5 ⟨rfl, hb5⟩
      have hblk5 := hblk.below hb5 hgr
      have hgr5 := hblk5.lt
      have e0 : w5.cell? ⟨B, k * 2, none⟩ = some (.int .i64 (l k).f0) := (hb5.cell (by exact hgr)).trans d0
      have e1 : w5.cell? ⟨B, k * 2 + 1, none⟩ = some (.int .i64 (l k).f1) := (hb5.cell (by exact hgr)).trans d1
      have r1 : w5.frozen? ⟨B, k * 2 + 1, none⟩ = false := hblk5.frozen _
      have hbl5 := hbl.trans (hb5.mono hbl.size)
      go_wp2_with fail
      go_roundw
      case rel =>
        refine ⟨k + 1, by omega, by go_num, hbl5.setCell hB' _, ?_⟩
        have h6 := hblk5.set_ (k * 2 + 1) (.int .i64 (mRaiseBlackL n l x k).f1)
        rw [arr_set] at h6
        refine h6.congr (fun j hj => ?_)
        by_cases q1 : j = k * 2 + 1
        · subst q1; rw [if_pos rfl, if_pos (by omega), KnotC1]
        · rw [if_neg q1]
          by_cases q0 : j = k * 2
          · subst q0; rw [if_neg (by omega), if_pos (by omega), HF.out _ (by omega), KnotC0, KnotC0]; rfl
          · by_cases q2 : j < k * 2
            · rw [if_pos q2, if_pos (by omega)]
            · rw [if_neg q2, if_neg (by omega)]
      case measure => simp [intOf]; omega
    · obtain rfl : k = n := by omega
      go_wp2_with fail
      go_ret2
      exact ⟨retS E.out.1.symm E.out.2.symm (Own.blk hblk hB' hm (fun j hj => if_pos hj)) (fun h => by cases h), hbl⟩

end Go.Proofs.Ytjomlcjchndkeaa
