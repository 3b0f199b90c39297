/- Domes: plain arithmetic, no program. -/
import Derived.Test.YthjllledhcfnhaaGreatDoorVecMath
namespace Go.Ks
theorem arct_any0 {y x : Int} (h : y = 0 ∧ x = 0) : arct y x = 0 := by rw [h.1, h.2]; exact arct_zero
/-- the share of a zone -/
def zoneV (lo hi : Int) : Int := divr (1000 * (sine hi - sine lo)) 1000000
def mZoneV (lo hi : Int) : Int := if inB lo 0 90000 = true ∧ inB hi lo 90000 = true then zoneV lo hi else 0
def mZoneC (lo hi : Int) : Int := if inB lo 0 90000 = true ∧ inB hi lo 90000 = true then 0 else 2
theorem mZone_no {lo hi : Int} (h : ¬ (inB lo 0 90000 = true ∧ inB hi lo 90000 = true)) : mZoneV lo hi = 0 ∧ mZoneC lo hi = 2 := ⟨if_neg h, if_neg h⟩
theorem mZone_yes {lo hi : Int} (h : inB lo 0 90000 = true ∧ inB hi lo 90000 = true) : mZoneV lo hi = zoneV lo hi ∧ mZoneC lo hi = 0 := ⟨if_pos h, if_pos h⟩
/-- the spot of a direction -/
def spotR (alt : Int) : Int := divr ((90000 - alt) * 1000000) 90000
def spotV (az alt : Int) : SpotD := ⟨divr (spotR alt * sine az) 1000000, divr (spotR alt * cosi az) 1000000⟩
theorem spotR_bd {alt : Int} (h0 : 0 ≤ alt) (h1 : alt ≤ 90000) : 0 ≤ spotR alt ∧ spotR alt ≤ 1000000 := by
  unfold spotR
  refine ⟨divr_nonneg (by omega) (by omega), ?_⟩
  have := divr_mono (a := (90000 - alt) * 1000000) (a' := 1000000 * 90000) (b := 90000) (by omega) (by omega)
  rw [divr_mul (by omega)] at this
  exact this
/-- the direction of a spot -/
def spotLen (x y : Int) : Int := iroot (x * x + y * y)
def atA (x y : Int) : Int := arct x y
def atB (x y : Int) : Int := 90000 - divr (spotLen x y * 90000) 1000000
def DiscOk (x y : Int) : Prop := inB x (-1000000) 1000000 = true ∧ inB y (-1000000) 1000000 = true ∧ spotLen x y ≤ 1000000
instance (x y : Int) : Decidable (DiscOk x y) := inferInstanceAs (Decidable (_ ∧ _ ∧ _))
def mAtA (x y : Int) : Int := if DiscOk x y then atA x y else 0
def mAtB (x y : Int) : Int := if DiscOk x y then atB x y else 0
def mAtC (x y : Int) : Int := if DiscOk x y then 0 else 2
theorem mAt_no {x y : Int} (h : ¬ DiscOk x y) : mAtA x y = 0 ∧ mAtB x y = 0 ∧ mAtC x y = 2 := ⟨if_neg h, if_neg h, if_neg h⟩
theorem mAt_yes {x y : Int} (h : DiscOk x y) : mAtA x y = atA x y ∧ mAtB x y = atB x y ∧ mAtC x y = 0 := ⟨if_pos h, if_pos h, if_pos h⟩
theorem spot_sq {x : Int} (h1 : -1000000 ≤ x) (h2 : x ≤ 1000000) : 0 ≤ x * x ∧ x * x ≤ 1000000000000 := by
  have h := mul_bd2 (a := x) (b := x) (m := 1000000) (n := 1000000) h1 h2 h1 h2 (by omega)
  refine ⟨?_, by omega⟩
  rcases Int.le_total 0 x with h0 | h0
  · exact Int.mul_nonneg h0 h0
  · have := Int.mul_nonneg (a := -x) (b := -x) (by omega) (by omega)
    rwa [Int.neg_mul_neg] at this
theorem iroot_zero {n : Int} (h0 : 0 ≤ n) (h : iroot n = 0) : n = 0 := by
  have := (iroot_spec h0).2
  rw [h] at this
  omega
theorem spot_zero {x y : Int} (h1 : -1000000 ≤ x) (h2 : x ≤ 1000000) (h3 : -1000000 ≤ y) (h4 : y ≤ 1000000) (h : spotLen x y = 0) : x = 0 ∧ y = 0 := by
  have a := spot_sq h1 h2
  have b := spot_sq h3 h4
  have e := iroot_zero (n := x * x + y * y) (by omega) h
  have ex : x * x = 0 := by omega
  have ey : y * y = 0 := by omega
  exact ⟨by rcases Int.mul_eq_zero.1 ex with h | h <;> exact h, by rcases Int.mul_eq_zero.1 ey with h | h <;> exact h⟩
theorem spotLen_bd {x y : Int} (h1 : -1000000 ≤ x) (h2 : x ≤ 1000000) (h3 : -1000000 ≤ y) (h4 : y ≤ 1000000) : 0 ≤ spotLen x y ∧ spotLen x y ≤ 1500000 := by
  have a := spot_sq h1 h2
  have b := spot_sq h3 h4
  exact ⟨iroot_nonneg _, iroot_le (by omega) (by omega)⟩
/-- arcs -/
def arcOn (r d : Int) : Int := divr (r * d * 314159) 18000000000
theorem arc_bd {r d : Int} (h0 : 0 ≤ r) (h1 : r ≤ 30000) (h2 : 0 ≤ d) (h3 : d ≤ 359999) : (0 ≤ r * d ∧ r * d ≤ 10799970000) ∧ 0 ≤ r * d * 314159 ∧ r * d * 314159 ≤ 3392907775230000 := by
  have h := mul_bd (a := r) (b := d) (m := 30000) (n := 359999) (by omega) h1 h2 h3 (by omega)
  have h' := Int.mul_nonneg h0 h2
  omega
/-- the angles of a view -/
def viewA (r : Int) (s : VectorD) (az alt : Int) : Int := nrm (90000 - angA (viewV r s az alt))
def viewB (r : Int) (s : VectorD) (az alt : Int) : Int := angB (viewV r s az alt)
theorem angB_bd (v : VectorD) : -270000 ≤ angB v ∧ angB v ≤ 90000 := by
  have h := arct_bd v.f2 (iroot (v.f0 * v.f0 + v.f1 * v.f1))
  unfold angB
  split <;> omega
theorem sum2_bd {v : VectorD} {m : Int} (h : Vb m v) (hm : m ≤ 2000000) (h0 : 0 ≤ m) : (0 ≤ v.f0 * v.f0 ∧ v.f0 * v.f0 ≤ 4000000000000) ∧ (0 ≤ v.f1 * v.f1 ∧ v.f1 * v.f1 ≤ 4000000000000) ∧ (0 ≤ iroot (v.f0 * v.f0 + v.f1 * v.f1) ∧ iroot (v.f0 * v.f0 + v.f1 * v.f1) ≤ 3000000) := by
  obtain ⟨a, b, _⟩ := h
  have nn : ∀ x : Int, 0 ≤ x * x := fun x => by
    rcases Int.le_total 0 x with h0 | h0
    · exact Int.mul_nonneg h0 h0
    · have := Int.mul_nonneg (a := -x) (b := -x) (by omega) (by omega)
      rwa [Int.neg_mul_neg] at this
  have h1 := two_mul_bd (a := v.f0) (b := v.f0) (by omega) (by omega)
  have h2 := two_mul_bd (a := v.f1) (b := v.f1) (by omega) (by omega)
  have := nn v.f0
  have := nn v.f1
  exact ⟨by omega, by omega, iroot_nonneg _, iroot_le (by omega) (by omega)⟩
/-- the error of what a seat sees -/
def errV (r : Int) (s : VectorD) (az alt : Int) : Int := sepV (dirV az alt) (dirV (viewA r s az alt) (viewB r s az alt))
theorem errV_bd (r : Int) (s : VectorD) (az alt : Int) : 0 ≤ errV r s az alt ∧ errV r s az alt ≤ 359999 := sepV_bd _ _
/-- the greatest error up to altitude number k of azimuth az, from m on -/
def worstRow (r : Int) (s : VectorD) (st az m : Int) : Nat → Int
  | 0 => m
  | k + 1 => max (worstRow r s st az m k) (errV r s az (st * (k : Int)))
end Go.Ks
