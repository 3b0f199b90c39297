/- Points of a mesh, and between them: plain arithmetic, no program. -/
import Derived.Test.YthjllledhcfnhaaGreatDoorRootMath
namespace Go.Ks

/-- the cell of a part of the image, and the place within it -/
def warpI (C u : Int) : Int := min (u * (C - 1) / 1000000) (C - 2)
def warpF (C u : Int) : Int := u * (C - 1) - warpI C u * 1000000
theorem warp_num {C u : Int} (hC : 2 ≤ C) (hC' : C ≤ 9) (hu : 0 ≤ u) (hu' : u ≤ 1000000) : 0 ≤ u * (C - 1) ∧ u * (C - 1) ≤ 1000000 * (C - 1) ∧ u * (C - 1) ≤ 8000000 := by
  have h1 : 0 ≤ u * (C - 1) := Int.mul_nonneg hu (by omega)
  have h2 : u * (C - 1) ≤ 1000000 * (C - 1) := Int.mul_le_mul_of_nonneg_right hu' (by omega)
  omega
theorem warpI_bd {C u : Int} (hC : 2 ≤ C) (hC' : C ≤ 9) (hu : 0 ≤ u) (hu' : u ≤ 1000000) : 0 ≤ warpI C u ∧ warpI C u ≤ C - 2 := by
  have h := warp_num hC hC' hu hu'
  unfold warpI
  generalize u * (C - 1) = a at *
  omega
theorem warpF_bd {C u : Int} (hC : 2 ≤ C) (hC' : C ≤ 9) (hu : 0 ≤ u) (hu' : u ≤ 1000000) : 0 ≤ warpF C u ∧ warpF C u ≤ 1000000 := by
  have h := warp_num hC hC' hu hu'
  unfold warpF warpI
  generalize u * (C - 1) = a at *
  omega
/-- the number of the cell's first corner -/
def warpK (C R u v : Int) : Int := warpI R v * C + warpI C u
theorem warpK_bd {C R u v : Int} (hC : 2 ≤ C) (hC' : C ≤ 9) (hR : 2 ≤ R) (hR' : R ≤ 9) (hu : 0 ≤ u) (hu' : u ≤ 1000000) (hv : 0 ≤ v) (hv' : v ≤ 1000000) :
    0 ≤ warpK C R u v ∧ warpK C R u v + C + 1 < C * R := by
  have h1 := warpI_bd hC hC' hu hu'
  have h2 := warpI_bd hR hR' hv hv'
  unfold warpK
  generalize warpI C u = i at *
  generalize warpI R v = j at *
  have h3 : 0 ≤ j * C := Int.mul_nonneg (by omega) (by omega)
  have h4 : j * C ≤ (R - 2) * C := Int.mul_le_mul_of_nonneg_right (by omega) (by omega)
  have h5 : (R - 2) * C = C * R - 2 * C := by rw [Int.sub_mul, Int.mul_comm R C]
  omega
/-- a mean of four numbers by two shares -/
def mixS (a b c d x y : Int) : Int := a * (1000000 - x) * (1000000 - y) + b * x * (1000000 - y) + c * (1000000 - x) * y + d * x * y
def mix (a b c d x y : Int) : Int := divr (mixS a b c d x y) 1000000000000
theorem mix_sum (x y : Int) : (1000000 - x) * (1000000 - y) + x * (1000000 - y) + (1000000 - x) * y + x * y = 1000000000000 := by grind
theorem mix_w {x y : Int} (hx : 0 ≤ x) (hx' : x ≤ 1000000) (hy : 0 ≤ y) (hy' : y ≤ 1000000) :
    (0 ≤ (1000000 - x) * (1000000 - y) ∧ (1000000 - x) * (1000000 - y) ≤ 1000000000000) ∧ (0 ≤ x * (1000000 - y) ∧ x * (1000000 - y) ≤ 1000000000000) ∧ (0 ≤ (1000000 - x) * y ∧ (1000000 - x) * y ≤ 1000000000000) ∧ (0 ≤ x * y ∧ x * y ≤ 1000000000000) := by
  have s := mix_sum x y
  have h1 : 0 ≤ (1000000 - x) * (1000000 - y) := Int.mul_nonneg (by omega) (by omega)
  have h2 : 0 ≤ x * (1000000 - y) := Int.mul_nonneg (by omega) (by omega)
  have h3 : 0 ≤ (1000000 - x) * y := Int.mul_nonneg (by omega) (by omega)
  have h4 : 0 ≤ x * y := Int.mul_nonneg (by omega) (by omega)
  omega
/-- the same sum by the weights -/
theorem mix_eq (a b c d x y : Int) : mixS a b c d x y = a * ((1000000 - x) * (1000000 - y)) + b * (x * (1000000 - y)) + c * ((1000000 - x) * y) + d * (x * y) := by
  unfold mixS
  rw [Int.mul_assoc a, Int.mul_assoc b, Int.mul_assoc c, Int.mul_assoc d]
theorem term_bd {a w : Int} (h1 : -2000000 ≤ a) (h2 : a ≤ 2000000) (hw : 0 ≤ w) : -(2000000 * w) ≤ a * w ∧ a * w ≤ 2000000 * w := by
  have h3 : a * w ≤ 2000000 * w := Int.mul_le_mul_of_nonneg_right h2 hw
  have h4 : -2000000 * w ≤ a * w := Int.mul_le_mul_of_nonneg_right h1 hw
  omega
theorem mixS_bd {a b c d x y : Int} (ha : -2000000 ≤ a) (ha' : a ≤ 2000000) (hb : -2000000 ≤ b) (hb' : b ≤ 2000000) (hc : -2000000 ≤ c) (hc' : c ≤ 2000000) (hd : -2000000 ≤ d) (hd' : d ≤ 2000000)
    (hx : 0 ≤ x) (hx' : x ≤ 1000000) (hy : 0 ≤ y) (hy' : y ≤ 1000000) : -2000000000000000000 ≤ mixS a b c d x y ∧ mixS a b c d x y ≤ 2000000000000000000 := by
  have s := mix_sum x y
  obtain ⟨⟨w1, _⟩, ⟨w2, _⟩, ⟨w3, _⟩, ⟨w4, _⟩⟩ := mix_w hx hx' hy hy'
  have t1 := term_bd ha ha' w1
  have t2 := term_bd hb hb' w2
  have t3 := term_bd hc hc' w3
  have t4 := term_bd hd hd' w4
  rw [mix_eq]
  omega
theorem part_bd {a x y : Int} (ha : -2000000 ≤ a) (ha' : a ≤ 2000000) (hx : 0 ≤ x) (hx' : x ≤ 1000000) (hy : 0 ≤ y) (hy' : y ≤ 1000000) :
    (-2000000000000 ≤ a * x ∧ a * x ≤ 2000000000000) ∧ -2000000000000000000 ≤ a * x * y ∧ a * x * y ≤ 2000000000000000000 := by
  have h1 := mul_bd (a := a) (b := x) (m := 2000000) (n := 1000000) (by omega) (by omega) (by omega) (by omega) (by omega)
  have h2 := mul_bd (a := a * x) (b := y) (m := 2000000000000) (n := 1000000) (by omega) (by omega) (by omega) (by omega) (by omega)
  omega
theorem divr_in {a b m : Int} (hb : 0 < b) (h1 : -(m * b) ≤ a) (h2 : a ≤ m * b) : -m ≤ divr a b ∧ divr a b ≤ m := by
  have e1 := divr_mono hb h1
  have e2 := divr_mono hb h2
  rw [← Int.neg_mul, divr_mul hb] at e1
  rw [divr_mul hb] at e2
  omega
theorem mix_bd {a b c d x y : Int} (ha : -2000000 ≤ a) (ha' : a ≤ 2000000) (hb : -2000000 ≤ b) (hb' : b ≤ 2000000) (hc : -2000000 ≤ c) (hc' : c ≤ 2000000) (hd : -2000000 ≤ d) (hd' : d ≤ 2000000)
    (hx : 0 ≤ x) (hx' : x ≤ 1000000) (hy : 0 ≤ y) (hy' : y ≤ 1000000) : -2000000 ≤ mix a b c d x y ∧ mix a b c d x y ≤ 2000000 := by
  have h := mixS_bd ha ha' hb hb' hc hc' hd hd' hx hx' hy hy'
  exact divr_in (m := 2000000) (by omega) (by omega) (by omega)
/-- where a point of the image lies -/
def warpX (C R : Int) (l : Nat → SpotD) (u v : Int) : Int :=
  mix (l (warpK C R u v).toNat).f0 (l ((warpK C R u v).toNat + 1)).f0 (l ((warpK C R u v).toNat + C.toNat)).f0 (l ((warpK C R u v).toNat + C.toNat + 1)).f0 (warpF C u) (warpF R v)
def warpY (C R : Int) (l : Nat → SpotD) (u v : Int) : Int :=
  mix (l (warpK C R u v).toNat).f1 (l ((warpK C R u v).toNat + 1)).f1 (l ((warpK C R u v).toNat + C.toNat)).f1 (l ((warpK C R u v).toNat + C.toNat + 1)).f1 (warpF C u) (warpF R v)
/-- the square of the distance of two spots -/
def gapS (x y p q : Int) : Int := (x - p) * (x - p) + (y - q) * (y - q)
theorem sq_in {a m : Int} (h1 : -m ≤ a) (h2 : a ≤ m) : 0 ≤ a * a ∧ a * a ≤ m * m := by
  rcases Int.lt_or_le a 0 with h | h
  · have h3 := sq_le_sq (a := -a) (b := m) (by omega) (by omega)
    rw [Int.neg_mul_neg] at h3
    refine ⟨?_, h3⟩
    have := Int.mul_nonneg (a := -a) (b := -a) (by omega) (by omega)
    rwa [Int.neg_mul_neg] at this
  · exact ⟨Int.mul_nonneg h h, sq_le_sq h h2⟩
theorem gapS_bd {x y p q : Int} (h1 : -2000000 ≤ x) (h2 : x ≤ 2000000) (h3 : -2000000 ≤ y) (h4 : y ≤ 2000000) (h5 : -2000000 ≤ p) (h6 : p ≤ 2000000) (h7 : -2000000 ≤ q) (h8 : q ≤ 2000000) :
    (0 ≤ (x - p) * (x - p) ∧ (x - p) * (x - p) ≤ 16000000000000) ∧ (0 ≤ (y - q) * (y - q) ∧ (y - q) * (y - q) ≤ 16000000000000) ∧ 0 ≤ gapS x y p q ∧ gapS x y p q ≤ 32000000000000 := by
  have e1 := sq_in (a := x - p) (m := 4000000) (by omega) (by omega)
  have e2 := sq_in (a := y - q) (m := 4000000) (by omega) (by omega)
  unfold gapS
  omega
end Go.Ks
