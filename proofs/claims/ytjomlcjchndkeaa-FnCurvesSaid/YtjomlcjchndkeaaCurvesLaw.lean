/- Curves that are composed, raised or made of powers are curves: plain arithmetic. No condition. -/
import Derived.Test.YtjomlcjchndkeaaCurveMade
namespace Go.Proofs.Ytjomlcjchndkeaa
open Go.RowKit Go.Lib Go.Ks
theorem line_mono {x0 y0 x1 y1 x x' : Int} (hy : y0 ≤ y1) (hx : x ≤ x') : line x0 y0 x1 y1 x ≤ line x0 y0 x1 y1 x' := by
  have m := line_mid (x0 := x0) (x1 := x1) (x := x) hy
  have m' := line_mid (x0 := x0) (x1 := x1) (x := x') hy
  by_cases q : x ≤ x0 ∨ x1 ≤ x0
  · have e : line x0 y0 x1 y1 x = y0 := if_pos q
    omega
  · by_cases q2 : x1 ≤ x'
    · have e : line x0 y0 x1 y1 x' = y1 := by unfold line; rw [if_neg (by omega), if_pos q2]
      omega
    · unfold line
      rw [if_neg q, if_neg (by omega), if_neg (by omega), if_neg q2]
      have h := divr_mono (b := x1 - x0) (a := (y1 - y0) * (x - x0)) (a' := (y1 - y0) * (x' - x0)) (by omega) (Int.mul_le_mul_of_nonneg_left (by omega) (by omega))
      omega
theorem curve_rise1 {n : Nat} {l : Nat → KnotD} (h : CurveOk n l) : ∀ d k, k + d < n → (l k).f1 ≤ (l (k + d)).f1
  | 0, _, _ => Int.le_refl _
  | d + 1, k, hk => by
    have h1 := curve_rise1 h d k (by omega)
    have h2 := ((h.2.2.2.2 (k + (d + 1)) hk).2 (by omega)).2
    rw [show k + (d + 1) - 1 = k + d from by omega] at h2
    omega
theorem curveVal_mono {n : Nat} {l : Nat → KnotD} (h : CurveOk n l) {x y : Int} (hx : x ≤ y) (hy : y ≤ 1000) : curveVal n l x ≤ curveVal n l y := by
  obtain ⟨i, hi⟩ := seg_exists h (x := x) (by omega)
  obtain ⟨j, hj⟩ := seg_exists h hy
  rw [curveVal_eq hi, curveVal_eq hj]
  have b1 := segVal_bd h hi.1 hi.2.1 x
  have b2 := segVal_bd h hj.1 hj.2.1 y
  rcases Nat.lt_trichotomy i j with q | q | q
  · have r := curve_rise1 h (j - 1 - i) i (by have := hj.2.1; omega)
    rw [show i + (j - 1 - i) = j - 1 from by omega] at r
    omega
  · subst q
    exact line_mono ((h.2.2.2.2 i hi.2.1).2 (by have := hi.1; omega)).2 hx
  · have := hi.2.2.2 j hj.1 q
    have := hj.2.2.1
    omega
/-- a curve with knots at the hundreds -/
theorem hundreds_ok {g : Nat → Int} (h : ∀ k, k < 11 → 0 ≤ g k ∧ g k ≤ 1000) (hm : ∀ k, 0 < k → k < 11 → g (k - 1) ≤ g k) : CurveOk 11 (fun i => ⟨100 * (i : Int), g i⟩) := by
  refine ⟨by omega, by omega, rfl, rfl, fun k hk => ⟨inB_iff.2 (h k hk), fun h0 => ⟨?_, hm k h0 hk⟩⟩⟩
  simp only
  omega
theorem hundreds_at {g : Nat → Int} {m : Nat} (hm : m ≤ 10) : curveVal 11 (fun i => ⟨100 * (i : Int), g i⟩) (100 * (m : Int)) = g m := by
  by_cases q : m = 0
  · subst q
    have hi : IsSeg 11 (fun i => ⟨100 * (i : Int), g i⟩) (100 * ((0 : Nat) : Int)) 1 := ⟨by omega, by omega, by simp, fun j h1 h2 => by omega⟩
    rw [curveVal_eq hi]
    unfold segVal line
    rw [if_pos (.inl (by simp))]
  · have hi : IsSeg 11 (fun i => ⟨100 * (i : Int), g i⟩) (100 * (m : Int)) m := ⟨by omega, by omega, by simp, fun j h1 h2 => by simp only; omega⟩
    rw [curveVal_eq hi]
    unfold segVal line
    simp only
    rw [if_neg (by omega), if_pos (by omega)]
theorem compose_ok {n0 n1 : Nat} {l0 l1 : Nat → KnotD} (h0 : CurveOk n0 l0) (h1 : CurveOk n1 l1) : CurveOk 11 (mComposeCurvesL n0 l0 n1 l1) :=
  hundreds_ok (fun k hk => curveVal_bd h1 (curveVal_bd h0 (by omega)).2) (fun k h2 hk => curveVal_mono h1 (curveVal_mono h0 (by omega) (by omega)) (curveVal_bd h0 (by omega)).2)
theorem compose_at {n0 n1 m : Nat} {l0 l1 : Nat → KnotD} (hm : m ≤ 10) : curveVal 11 (mComposeCurvesL n0 l0 n1 l1) (100 * (m : Int)) = curveVal n1 l1 (curveVal n0 l0 (100 * (m : Int))) :=
  hundreds_at (g := fun i => curveVal n1 l1 (curveVal n0 l0 (100 * (i : Int)))) hm
theorem pw_mono {x y : Int} (h0 : 0 ≤ x) (h : x ≤ y) (h1 : y ≤ 1000) : ∀ k, pw x k ≤ pw y k
  | 0 => Int.le_refl _
  | k + 1 => by
    have b := pw_bd h0 (by omega) k
    have b' := pw_bd (x := y) (by omega) h1 k
    exact divr_mono (by decide) (Int.mul_le_mul (pw_mono h0 h h1 k) h h0 (by omega))
theorem pw_down {x : Int} (h0 : 0 ≤ x) (h1 : x ≤ 1000) (k : Nat) : pw x (k + 1) ≤ pw x k := by
  have b := pw_bd h0 h1 k
  have h := divr_mono (b := 1000) (a := pw x k * x) (a' := pw x k * 1000) (by decide) (Int.mul_le_mul_of_nonneg_left h1 b.1)
  rw [divr_mul (by decide)] at h
  exact h
theorem power_ok (x : Int) : CurveOk 11 (mPowerCurveL x) :=
  hundreds_ok (g := fun i => pw (100 * (i : Int)) x.toNat) (fun k hk => pw_bd (by omega) (by omega) _) (fun k h2 hk => pw_mono (by omega) (by omega) (by omega) _)
theorem power_less {x : Int} (h0 : 0 ≤ x) {i : Nat} (hi : i < 11) : (mPowerCurveL (x + 1) i).f1 ≤ (mPowerCurveL x i).f1 := by
  unfold mPowerCurveL
  simp only
  rw [show (x + 1).toNat = x.toNat + 1 from by omega]
  exact pw_down (by omega) (by omega) _
theorem raise_bd {o v : Int} (o0 : 0 ≤ o) (o1 : o ≤ 1000) (v0 : 0 ≤ v) (v1 : v ≤ 1000) : v ≤ v + divr (o * (1000 - v)) 1000 ∧ o ≤ v + divr (o * (1000 - v)) 1000 ∧ v + divr (o * (1000 - v)) 1000 ≤ 1000 := by
  have h0 := divr_nonneg (b := 1000) (by decide) (Int.mul_nonneg o0 (show 0 ≤ 1000 - v by omega))
  have h1 := divr_mono (b := 1000) (a := o * (1000 - v)) (a' := (1000 - v) * 1000) (by decide) (by rw [Int.mul_comm (1000 - v)]; exact Int.mul_le_mul_of_nonneg_right o1 (by omega))
  rw [divr_mul (by decide)] at h1
  have h2 := divr_mono (b := 1000) (a := (o - v) * 1000) (a' := o * (1000 - v)) (by decide) (by
    have : o * v ≤ 1000 * v := Int.mul_le_mul_of_nonneg_right o1 v0
    rw [Int.sub_mul, Int.mul_sub]
    omega)
  rw [divr_mul (by decide)] at h2
  omega
theorem raise_ok {n : Nat} {l : Nat → KnotD} {v : Int} (h : CurveOk n l) (v0 : 0 ≤ v) (v1 : v ≤ 1000) : CurveOk n (mRaiseBlackL n l v) := by
  obtain ⟨a, b, c, d, e⟩ := h
  refine ⟨a, b, c, d, fun k hk => ⟨?_, fun h0 => ⟨((e k hk).2 h0).1, ?_⟩⟩⟩
  · obtain ⟨o0, o1⟩ := inB_iff.1 (e k hk).1
    have r := raise_bd o0 o1 v0 v1
    exact inB_iff.2 ⟨by unfold mRaiseBlackL; simp only; omega, r.2.2⟩
  · have m := ((e k hk).2 h0).2
    have := divr_mono (b := 1000) (a := (l (k - 1)).f1 * (1000 - v)) (a' := (l k).f1 * (1000 - v)) (by decide) (Int.mul_le_mul_of_nonneg_right m (by omega))
    unfold mRaiseBlackL
    simp only
    omega
end Go.Proofs.Ytjomlcjchndkeaa
