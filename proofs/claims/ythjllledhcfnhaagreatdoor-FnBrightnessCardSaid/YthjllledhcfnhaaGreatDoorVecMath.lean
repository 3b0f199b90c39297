/- Vectors: plain arithmetic, no program. -/
import Derived.Test.YthjllledhcfnhaaGreatDoorTrigMath
namespace Go.Ks

theorem bsr_all {p : Int → Bool} (h : ∀ m, p m = true) : ∀ (n : Nat) (lo : Int), bsr p lo n = lo := by
  intro n
  induction n using Nat.strongRecOn with
  | _ n ih =>
    intro lo
    rcases Nat.eq_zero_or_pos n with rfl | h0
    · exact bsr_zero _ _
    · rw [bsr_yes h0 (h _)]; exact ih _ (by omega) _
theorem arct_zero : arct 0 0 = 0 := by
  have h1 : arcE 0 0 = 0 := bsr_all (fun m => by unfold arcP; rw [Int.mul_zero, Int.mul_zero]; rfl) _ _
  have h2 : arcB 0 0 = 0 := by
    unfold arcB
    rw [iabs_pos (Int.le_refl 0), if_neg (Int.lt_irrefl 0)]
    exact h1
  unfold arct
  rw [if_pos ⟨Int.le_refl 0, Int.le_refl 0⟩, h2]
/-- the direction of two angles -/
def dirV (lon lat : Int) : VectorD := ⟨divr (cosi lat * cosi lon) 1000000, divr (cosi lat * sine lon) 1000000, sine lat⟩
def lenV (v : VectorD) : Int := iroot (v.f0 * v.f0 + v.f1 * v.f1 + v.f2 * v.f2)
def dotV (a b : VectorD) : Int := divr (a.f0 * b.f0 + a.f1 * b.f1 + a.f2 * b.f2) 1000000
def crossV (a b : VectorD) : VectorD := ⟨divr (a.f1 * b.f2 - a.f2 * b.f1) 1000000, divr (a.f2 * b.f0 - a.f0 * b.f2) 1000000, divr (a.f0 * b.f1 - a.f1 * b.f0) 1000000⟩
/-- each component at most m -/
def Vb (m : Int) (v : VectorD) : Prop := (-m ≤ v.f0 ∧ v.f0 ≤ m) ∧ (-m ≤ v.f1 ∧ v.f1 ≤ m) ∧ (-m ≤ v.f2 ∧ v.f2 ≤ m)
theorem Vb.mono {m n : Int} {v : VectorD} (h : Vb m v) (hn : m ≤ n) : Vb n v := by
  obtain ⟨⟨_, _⟩, ⟨_, _⟩, _, _⟩ := h
  exact ⟨⟨by omega, by omega⟩, ⟨by omega, by omega⟩, by omega, by omega⟩
/-- a rounded quotient by a million -/
theorem divr_le {a b m : Int} (hb : 0 < b) (h1 : -(m * b) ≤ a) (h2 : a ≤ m * b) : -m ≤ divr a b ∧ divr a b ≤ m := by
  have e1 := divr_mono hb h1
  have e2 := divr_mono hb h2
  rw [divr_mul hb] at e2
  rw [divr_neg_eq hb, divr_mul hb] at e1
  exact ⟨e1, e2⟩
theorem unit_mul {a b : Int} (h1 : -1000000 ≤ a) (h2 : a ≤ 1000000) (h3 : -1000000 ≤ b) (h4 : b ≤ 1000000) : -1000000000000 ≤ a * b ∧ a * b ≤ 1000000000000 := by
  have := mul_bd2 (a := a) (b := b) (m := 1000000) (n := 1000000) h1 h2 h3 h4 (by omega)
  omega
theorem dirV_bd (lon lat : Int) : Vb 1000000 (dirV lon lat) := by
  obtain ⟨a1, a2⟩ := cosi_bd lat
  obtain ⟨b1, b2⟩ := cosi_bd lon
  obtain ⟨c1, c2⟩ := sine_bd lon
  obtain ⟨m1, m2⟩ := unit_mul a1 a2 b1 b2
  obtain ⟨m3, m4⟩ := unit_mul a1 a2 c1 c2
  exact ⟨divr_le (by omega) (by omega) (by omega), divr_le (by omega) (by omega) (by omega), sine_bd _⟩
theorem two_mul_bd {a b : Int} (h1 : -2000000 ≤ a ∧ a ≤ 2000000) (h3 : -2000000 ≤ b ∧ b ≤ 2000000) : -4000000000000 ≤ a * b ∧ a * b ≤ 4000000000000 := by
  have := mul_bd2 (a := a) (b := b) (m := 2000000) (n := 2000000) h1.1 h1.2 h3.1 h3.2 (by omega)
  omega
theorem cross_bd {a b : VectorD} (ha : Vb 2000000 a) (hb : Vb 2000000 b) :
    (-8000000000000 ≤ a.f1 * b.f2 - a.f2 * b.f1 ∧ a.f1 * b.f2 - a.f2 * b.f1 ≤ 8000000000000) ∧ (-8000000000000 ≤ a.f2 * b.f0 - a.f0 * b.f2 ∧ a.f2 * b.f0 - a.f0 * b.f2 ≤ 8000000000000) ∧ (-8000000000000 ≤ a.f0 * b.f1 - a.f1 * b.f0 ∧ a.f0 * b.f1 - a.f1 * b.f0 ≤ 8000000000000) := by
  obtain ⟨a0, a1, a2⟩ := ha
  obtain ⟨b0, b1, b2⟩ := hb
  have := two_mul_bd a1 b2
  have := two_mul_bd a2 b1
  have := two_mul_bd a2 b0
  have := two_mul_bd a0 b2
  have := two_mul_bd a0 b1
  have := two_mul_bd a1 b0
  omega
theorem crossV_bd {a b : VectorD} (ha : Vb 2000000 a) (hb : Vb 2000000 b) : Vb 8000000 (crossV a b) := by
  obtain ⟨c0, c1, c2⟩ := cross_bd ha hb
  exact ⟨divr_le (by omega) (by omega) (by omega), divr_le (by omega) (by omega) (by omega), divr_le (by omega) (by omega) (by omega)⟩
theorem dot_bd {a b : VectorD} (ha : Vb 2000000 a) (hb : Vb 2000000 b) : -12000000000000 ≤ a.f0 * b.f0 + a.f1 * b.f1 + a.f2 * b.f2 ∧ a.f0 * b.f0 + a.f1 * b.f1 + a.f2 * b.f2 ≤ 12000000000000 := by
  obtain ⟨a0, a1, a2⟩ := ha
  obtain ⟨b0, b1, b2⟩ := hb
  have := two_mul_bd a0 b0
  have := two_mul_bd a1 b1
  have := two_mul_bd a2 b2
  omega
theorem dotV_bd {a b : VectorD} (ha : Vb 2000000 a) (hb : Vb 2000000 b) : -12000000 ≤ dotV a b ∧ dotV a b ≤ 12000000 := by
  have := dot_bd ha hb
  exact divr_le (by omega) (by omega) (by omega)
theorem sq8 {a : Int} (h : -8000000 ≤ a ∧ a ≤ 8000000) : 0 ≤ a * a ∧ a * a ≤ 64000000000000 := by
  have h2 := mul_bd2 (a := a) (b := a) (m := 8000000) (n := 8000000) h.1 h.2 h.1 h.2 (by omega)
  refine ⟨?_, by omega⟩
  rcases Int.le_total 0 a with h0 | h0
  · exact Int.mul_nonneg h0 h0
  · have := Int.mul_nonneg (a := -a) (b := -a) (by omega) (by omega)
    rwa [Int.neg_mul_neg] at this
theorem lenV_bd {v : VectorD} (h : Vb 8000000 v) : 0 ≤ lenV v ∧ lenV v ≤ 14000000 := by
  obtain ⟨h0, h1, h2⟩ := h
  have := sq8 h0
  have := sq8 h1
  have := sq8 h2
  exact ⟨iroot_nonneg _, iroot_le (by omega) (by omega)⟩
theorem sum_sq_bd {v : VectorD} (h : Vb 8000000 v) : (0 ≤ v.f0 * v.f0 ∧ v.f0 * v.f0 ≤ 64000000000000) ∧ (0 ≤ v.f1 * v.f1 ∧ v.f1 * v.f1 ≤ 64000000000000) ∧ (0 ≤ v.f2 * v.f2 ∧ v.f2 * v.f2 ≤ 64000000000000) := ⟨sq8 h.1, sq8 h.2.1, sq8 h.2.2⟩
def isZ (v : VectorD) : Prop := v.f0 = 0 ∧ v.f1 = 0 ∧ v.f2 = 0
instance (v : VectorD) : Decidable (isZ v) := inferInstanceAs (Decidable (_ ∧ _ ∧ _))
/-- the angle between two vectors; 0 if there is none -/
def sepV (a b : VectorD) : Int := if isZ a ∨ isZ b then 0 else arct (lenV (crossV a b)) (dotV a b)
theorem sepV_z {a b : VectorD} (h : isZ a ∨ isZ b) : sepV a b = 0 := if_pos h
theorem sepV_nz {a b : VectorD} (h : ¬ (isZ a ∨ isZ b)) : sepV a b = arct (lenV (crossV a b)) (dotV a b) := if_neg h
theorem sepV_bd (a b : VectorD) : 0 ≤ sepV a b ∧ sepV a b ≤ 359999 := by
  unfold sepV
  split
  · omega
  · exact arct_bd _ _
/-- the angles of a vector -/
def angA (v : VectorD) : Int := arct v.f1 v.f0
def angB (v : VectorD) : Int := if 90000 < arct v.f2 (iroot (v.f0 * v.f0 + v.f1 * v.f1)) then arct v.f2 (iroot (v.f0 * v.f0 + v.f1 * v.f1)) - 360000 else arct v.f2 (iroot (v.f0 * v.f0 + v.f1 * v.f1))
theorem angA_bd (v : VectorD) : 0 ≤ angA v ∧ angA v ≤ 359999 := arct_bd _ _
/-- a vector that is turned around the axis to the right -/
def rotV (v : VectorD) (by_ : Int) : VectorD := ⟨v.f0, divr (v.f1 * cosi by_ - v.f2 * sine by_) 1000000, divr (v.f1 * sine by_ + v.f2 * cosi by_) 1000000⟩
theorem rotV_nrm (v : VectorD) (a : Int) : rotV v (nrm a) = rotV v a := by unfold rotV; rw [sine_nrm, cosi_nrm]
theorem rot_bd {v : VectorD} (a : Int) (h : Vb 1000000 v) : (-2000000000000 ≤ v.f1 * cosi a - v.f2 * sine a ∧ v.f1 * cosi a - v.f2 * sine a ≤ 2000000000000) ∧ (-2000000000000 ≤ v.f1 * sine a + v.f2 * cosi a ∧ v.f1 * sine a + v.f2 * cosi a ≤ 2000000000000) := by
  obtain ⟨_, h1, h2⟩ := h
  have c := cosi_bd a
  have s := sine_bd a
  have := unit_mul h1.1 h1.2 c.1 c.2
  have := unit_mul h2.1 h2.2 c.1 c.2
  have := unit_mul h1.1 h1.2 s.1 s.2
  have := unit_mul h2.1 h2.2 s.1 s.2
  omega
theorem rotV_bd {v : VectorD} (a : Int) (h : Vb 1000000 v) : Vb 2000000 (rotV v a) := by
  obtain ⟨r1, r2⟩ := rot_bd a h
  obtain ⟨h0, _, _⟩ := h
  exact ⟨by show _ ≤ v.f0 ∧ v.f0 ≤ _; omega, divr_le (by omega) (by omega) (by omega), divr_le (by omega) (by omega) (by omega)⟩
/-- where a direction turns to -/
def tiltA (az alt by_ : Int) : Int := nrm (90000 - angA (rotV (dirV (nrm (90000 - az)) alt) by_))
def tiltB (az alt by_ : Int) : Int := angB (rotV (dirV (nrm (90000 - az)) alt) by_)
/-- a point of a dome of radius r -/
def ptV (r az alt : Int) : VectorD := ⟨divr (r * (dirV (nrm (90000 - az)) alt).f0) 1000000, divr (r * (dirV (nrm (90000 - az)) alt).f1) 1000000, divr (r * (dirV (nrm (90000 - az)) alt).f2) 1000000⟩
theorem r_mul {r x : Int} (h0 : 0 ≤ r) (h1 : r ≤ 30000) (h2 : -1000000 ≤ x ∧ x ≤ 1000000) : -30000000000 ≤ r * x ∧ r * x ≤ 30000000000 := by
  have := mul_bd2 (a := r) (b := x) (m := 30000) (n := 1000000) (by omega) h1 h2.1 h2.2 (by omega)
  omega
theorem ptV_bd {r : Int} (az alt : Int) (h0 : 0 ≤ r) (h1 : r ≤ 30000) : Vb 30000 (ptV r az alt) := by
  obtain ⟨d0, d1, d2⟩ := dirV_bd (nrm (90000 - az)) alt
  have m0 := r_mul h0 h1 d0
  have m1 := r_mul h0 h1 d1
  have m2 := r_mul h0 h1 d2
  exact ⟨divr_le (by omega) (by omega) (by omega), divr_le (by omega) (by omega) (by omega), divr_le (by omega) (by omega) (by omega)⟩
/-- what a seat sees -/
def viewV (r : Int) (s : VectorD) (az alt : Int) : VectorD := ⟨(ptV r az alt).f0 - s.f0, (ptV r az alt).f1 - s.f1, (ptV r az alt).f2 - s.f2⟩
theorem viewV_bd {r : Int} {s : VectorD} (az alt : Int) (h0 : 0 ≤ r) (h1 : r ≤ 30000) (hs : Vb 30000 s) : Vb 60000 (viewV r s az alt) := by
  obtain ⟨⟨_, _⟩, ⟨_, _⟩, _, _⟩ := ptV_bd az alt h0 h1
  obtain ⟨⟨_, _⟩, ⟨_, _⟩, _, _⟩ := hs
  exact ⟨⟨by show _ ≤ _ - _; omega, by show _ - _ ≤ _; omega⟩, ⟨by show _ ≤ _ - _; omega, by show _ - _ ≤ _; omega⟩, by show _ ≤ _ - _; omega, by show _ - _ ≤ _; omega⟩
end Go.Ks
