/- Curves as functions: plain arithmetic, no program. -/
import Derived.Test.YthjllledhcfnhaaGreatDoorMath
namespace Go.Ks

theorem curve_rise {n : Nat} {l : Nat → KnotD} (h : CurveOk n l) : ∀ d k, k + d < n → (l k).f0 ≤ (l (k + d)).f0
  | 0, _, _ => Int.le_refl _
  | d + 1, k, hk => by
    have h1 := curve_rise h d k (by omega)
    have h2 := ((h.2.2.2.2 (k + (d + 1)) hk).2 (by omega)).1
    rw [show k + (d + 1) - 1 = k + d from by omega] at h2
    omega
theorem curve_in {n : Nat} {l : Nat → KnotD} (h : CurveOk n l) {k : Nat} (hk : k < n) : 0 ≤ (l k).f0 ∧ (l k).f0 ≤ 1000 := by
  have h1 := curve_rise h k 0 (by omega)
  have h2 := curve_rise h (n - 1 - k) k (by omega)
  rw [Nat.zero_add] at h1
  rw [show k + (n - 1 - k) = n - 1 from by omega] at h2
  rw [h.2.2.1] at h1
  rw [h.2.2.2.1] at h2
  omega
theorem curve_out {n : Nat} {l : Nat → KnotD} (h : CurveOk n l) {k : Nat} (hk : k < n) : 0 ≤ (l k).f1 ∧ (l k).f1 ≤ 1000 := inB_iff.1 (h.2.2.2.2 k hk).1

/-- the part of the curve in which a level lies -/
def IsSeg (n : Nat) (l : Nat → KnotD) (x : Int) (i : Nat) : Prop := 1 ≤ i ∧ i < n ∧ x ≤ (l i).f0 ∧ ∀ j, 1 ≤ j → j < i → (l j).f0 < x
theorem IsSeg.uniq {n : Nat} {l : Nat → KnotD} {x : Int} {i j : Nat} (h : IsSeg n l x i) (h' : IsSeg n l x j) : i = j := by
  rcases Nat.lt_trichotomy i j with hl | hl | hl
  · have := h'.2.2.2 i h.1 hl; have := h.2.2.1; omega
  · exact hl
  · have := h.2.2.2 j h'.1 hl; have := h'.2.2.1; omega
def segVal (l : Nat → KnotD) (i : Nat) (x : Int) : Int := line (l (i - 1)).f0 (l (i - 1)).f1 (l i).f0 (l i).f1 x
open Classical in
noncomputable def curveVal (n : Nat) (l : Nat → KnotD) (x : Int) : Int := if h : ∃ i, IsSeg n l x i then segVal l (Classical.choose h) x else 0
theorem curveVal_eq {n : Nat} {l : Nat → KnotD} {x : Int} {i : Nat} (h : IsSeg n l x i) : curveVal n l x = segVal l i x := by
  unfold curveVal
  have he : ∃ i, IsSeg n l x i := ⟨i, h⟩
  rw [dif_pos he, (Classical.choose_spec he).uniq h]
theorem seg_exists {n : Nat} {l : Nat → KnotD} (h : CurveOk n l) {x : Int} (hx : x ≤ 1000) : ∃ i, IsSeg n l x i := by
  have key : ∀ d i, 1 ≤ i → i + d = n - 1 → (∀ j, 1 ≤ j → j < i → (l j).f0 < x) → ∃ i, IsSeg n l x i := fun d => by
    induction d with
    | zero =>
      intro i h1 h2 h3
      have e : i = n - 1 := by omega
      exact ⟨i, h1, by omega, by rw [e, h.2.2.2.1]; omega, h3⟩
    | succ d ih =>
      intro i h1 h2 h3
      by_cases hlt : (l i).f0 < x
      · exact ih (i + 1) (by omega) (by omega) (fun j hj1 hj2 => by
          by_cases e : j = i
          · subst e; exact hlt
          · exact h3 j hj1 (by omega))
      · exact ⟨i, h1, by omega, by omega, h3⟩
  exact key (n - 1 - 1) 1 (Nat.le_refl _) (by have := h.1; omega) (fun j h1 h2 => absurd h2 (by omega))
theorem line_mid {x0 y0 x1 y1 x : Int} (hy : y0 ≤ y1) : y0 ≤ line x0 y0 x1 y1 x ∧ line x0 y0 x1 y1 x ≤ y1 := by
  unfold line
  split
  · exact ⟨Int.le_refl _, hy⟩
  · rename_i h
    split
    · exact ⟨hy, Int.le_refl _⟩
    · rename_i h'
      have hp : 0 < x1 - x0 := by omega
      have h0 := divr_nonneg hp (a := (y1 - y0) * (x - x0)) (Int.mul_nonneg (by omega) (by omega))
      have h1 := divr_mono hp (a := (y1 - y0) * (x - x0)) (a' := (y1 - y0) * (x1 - x0)) (Int.mul_le_mul_of_nonneg_left (by omega) (by omega))
      rw [divr_mul hp] at h1
      omega
theorem segVal_bd {n : Nat} {l : Nat → KnotD} (h : CurveOk n l) {i : Nat} (h1 : 1 ≤ i) (h2 : i < n) (x : Int) : (l (i - 1)).f1 ≤ segVal l i x ∧ segVal l i x ≤ (l i).f1 := line_mid ((h.2.2.2.2 i h2).2 (by omega)).2
theorem curveVal_bd {n : Nat} {l : Nat → KnotD} (h : CurveOk n l) {x : Int} (hx : x ≤ 1000) : 0 ≤ curveVal n l x ∧ curveVal n l x ≤ 1000 := by
  obtain ⟨i, hi⟩ := seg_exists h hx
  rw [curveVal_eq hi]
  have b := segVal_bd h hi.1 hi.2.1 x
  have o1 := curve_out h (k := i - 1) (by have := hi.2.1; omega)
  have o2 := curve_out h hi.2.1
  omega
theorem curveOk_of {n : Nat} {l : Nat → KnotD} (h : curveOk n l = true) : CurveOk n l := curveOk_iff.1 h
end Go.Ks
