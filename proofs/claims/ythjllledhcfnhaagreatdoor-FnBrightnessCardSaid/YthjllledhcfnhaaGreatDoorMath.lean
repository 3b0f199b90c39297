/- Rounded quotients and lines: plain arithmetic, no program. -/
import Derived.Test.YthjllledhcfnhaaGreatDoorBase
namespace Go.Ks

def iabs (n : Int) : Int := if n < 0 then -n else n
theorem iabs_pos {n : Int} (h : 0 ≤ n) : iabs n = n := if_neg (by omega)
theorem iabs_neg {n : Int} (h : n < 0) : iabs n = -n := if_pos h

/-- the integer nearest to a / b, halves away from 0 (b positive) -/
def divr (a b : Int) : Int := if a < 0 then -((2 * (-a) + b) / (2 * b)) else (2 * a + b) / (2 * b)
theorem divr_pos {a b : Int} (h : 0 ≤ a) : divr a b = (2 * a + b) / (2 * b) := if_neg (by omega)
theorem divr_neg {a b : Int} (h : a < 0) : divr a b = -((2 * (-a) + b) / (2 * b)) := if_pos h
theorem quot_le {a b : Int} (ha : 0 ≤ a) (hb : 0 < b) : 0 ≤ a / b ∧ a / b ≤ a := by
  refine ⟨Int.ediv_nonneg ha (by omega), ?_⟩
  exact Int.ediv_le_self b ha
theorem rem_lt {a b : Int} (hb : 0 < b) : 0 ≤ a % b ∧ a % b < b := ⟨Int.emod_nonneg a (by omega), Int.emod_lt_of_pos a hb⟩
/-- rounding by the remainder -/
theorem round_eq {a b : Int} (hb : 0 < b) : (2 * a + b) / (2 * b) = if a % b < b - a % b then a / b else a / b + 1 := by
  have h1 := Int.mul_ediv_add_emod a b
  have h2 := rem_lt (a := a) hb
  have e : 2 * a + b = (2 * (a % b) + b) + (a / b) * (2 * b) := by
    rw [← h1]
    have : (b * (a / b) + a % b) / b = a / b := by rw [h1]
    have h3 : (b * (a / b) + a % b) % b = a % b := by rw [h1]
    rw [this, h3]
    have h4 : a / b * (2 * b) = 2 * (b * (a / b)) := by rw [Int.mul_left_comm, Int.mul_comm (a / b) b]
    omega
  rw [e, Int.add_mul_ediv_right _ _ (by omega)]
  split
  · rw [Int.ediv_eq_zero_of_lt (by omega) (by omega)]; omega
  · have : (2 * (a % b) + b) / (2 * b) = 1 := by
      have e2 : 2 * (a % b) + b = (2 * (a % b) - b) + 1 * (2 * b) := by omega
      rw [e2, Int.add_mul_ediv_right _ _ (by omega), Int.ediv_eq_zero_of_lt (by omega) (by omega)]; rfl
    rw [this]; omega
theorem divr_bd {a b m : Int} (hb : 0 < b) (h1 : -m ≤ a) (h2 : a ≤ m) : -m ≤ divr a b ∧ divr a b ≤ m := by
  unfold divr
  split
  · rename_i h
    rw [round_eq hb]
    have q := quot_le (a := -a) (by omega) hb
    have r := rem_lt (a := -a) hb
    split
    · omega
    · have hd := Int.mul_ediv_add_emod (-a) b
      have : -a / b + 1 ≤ -a := by
        rcases Int.lt_or_le (-a / b) (-a) with hlt | hge
        · omega
        · have e : -a / b = -a := by omega
          rw [e] at hd
          exfalso
          rcases Int.lt_or_le b 2 with h | h
          · obtain rfl : b = 1 := by omega
            omega
          · have : 2 * (-a) ≤ b * (-a) := Int.mul_le_mul_of_nonneg_right h (by omega)
            omega
      omega
  · rename_i h
    rw [round_eq hb]
    have q := quot_le (a := a) (by omega) hb
    have r := rem_lt (a := a) hb
    split
    · omega
    · have hd := Int.mul_ediv_add_emod a b
      have : a / b + 1 ≤ a := by
        rcases Int.lt_or_le (a / b) a with hlt | hge
        · omega
        · have e : a / b = a := by omega
          rw [e] at hd
          exfalso
          rcases Int.lt_or_le b 2 with h | h
          · obtain rfl : b = 1 := by omega
            omega
          · have : 2 * a ≤ b * a := Int.mul_le_mul_of_nonneg_right h (by omega)
            omega
      omega
theorem divr_nonneg {a b : Int} (hb : 0 < b) (h : 0 ≤ a) : 0 ≤ divr a b := by
  rw [divr_pos h]; exact Int.ediv_nonneg (by omega) (by omega)
theorem divr_nonpos {a b : Int} (hb : 0 < b) (h : a ≤ 0) : divr a b ≤ 0 := by
  rcases Int.lt_or_le a 0 with h' | h'
  · rw [divr_neg h']
    have : 0 ≤ (2 * -a + b) / (2 * b) := Int.ediv_nonneg (by omega) (by omega)
    omega
  · obtain rfl : a = 0 := by omega
    rw [divr_pos (by omega), Int.ediv_eq_zero_of_lt (by omega) (by omega)]; exact Int.le_refl _
theorem divr_neg_eq {a b : Int} (hb : 0 < b) : divr (-a) b = -divr a b := by
  unfold divr
  rcases Int.lt_trichotomy a 0 with h | h | h
  · rw [if_neg (by omega), if_pos h]; omega
  · subst h
    simp only [Int.neg_zero, Int.lt_irrefl, if_false, Int.mul_zero, Int.zero_add]
    rw [Int.ediv_eq_zero_of_lt (by omega) (by omega)]; rfl
  · rw [if_pos (by omega), if_neg (by omega), Int.neg_neg]
theorem divr_mono {a a' b : Int} (hb : 0 < b) (h : a ≤ a') : divr a b ≤ divr a' b := by
  rcases Int.lt_or_le a 0 with h1 | h1 <;> rcases Int.lt_or_le a' 0 with h2 | h2
  · rw [divr_neg h1, divr_neg h2]
    have := Int.ediv_le_ediv (c := 2 * b) (a := 2 * -a' + b) (b := 2 * -a + b) (by omega) (by omega)
    omega
  · exact Int.le_trans (divr_nonpos hb (by omega)) (divr_nonneg hb h2)
  · omega
  · rw [divr_pos h1, divr_pos h2]
    exact Int.ediv_le_ediv (by omega) (by omega)
theorem divr_mul {q b : Int} (hb : 0 < b) : divr (q * b) b = q := by
  have key : ∀ q : Int, 0 ≤ q → divr (q * b) b = q := fun q hq => by
    have h0 : 0 ≤ q * b := Int.mul_nonneg hq (by omega)
    rw [divr_pos h0, round_eq hb]
    have e1 : q * b % b = 0 := Int.mul_emod_left q b
    have e2 : q * b / b = q := Int.mul_ediv_cancel q (by omega)
    rw [e1, e2, if_pos (by omega)]
  rcases Int.lt_or_le q 0 with h | h
  · have := key (-q) (by omega)
    rw [Int.neg_mul, divr_neg_eq hb] at this
    omega
  · exact key q h

/-- a number on a line through two points -/
def line (x0 y0 x1 y1 x : Int) : Int := if x ≤ x0 ∨ x1 ≤ x0 then y0 else if x1 ≤ x then y1 else y0 + divr ((y1 - y0) * (x - x0)) (x1 - x0)

theorem mul_bd {a b m n : Int} (ha : -m ≤ a) (ha' : a ≤ m) (hb : 0 ≤ b) (hb' : b ≤ n) (_hm : 0 ≤ m) : -(m * n) ≤ a * b ∧ a * b ≤ m * n := by
  have h1 : m * b ≤ m * n := Int.mul_le_mul_of_nonneg_left hb' (by omega)
  have h2 : a * b ≤ m * b := Int.mul_le_mul_of_nonneg_right ha' hb
  have h3 : -m * b ≤ a * b := Int.mul_le_mul_of_nonneg_right ha hb
  rw [Int.neg_mul] at h3
  omega
theorem mul_bd2 {a b m n : Int} (ha : -m ≤ a) (ha' : a ≤ m) (hb : -n ≤ b) (hb' : b ≤ n) (hm : 0 ≤ m) : -(m * n) ≤ a * b ∧ a * b ≤ m * n := by
  rcases Int.lt_or_le b 0 with h | h
  · have := mul_bd ha ha' (b := -b) (n := n) (by omega) (by omega) hm
    rw [Int.mul_neg] at this
    omega
  · exact mul_bd ha ha' h hb' hm
end Go.Ks
