/- The square root of an integer, rounded down: plain arithmetic, no program. -/
import Derived.Test.YthjllledhcfnhaaGreatDoorMath
namespace Go.Ks

def isq : Nat → Nat
  | 0 => 0
  | n + 1 => if (isq n + 1) * (isq n + 1) ≤ n + 1 then isq n + 1 else isq n
theorem isq_spec : ∀ n : Nat, isq n * isq n ≤ n ∧ n < (isq n + 1) * (isq n + 1)
  | 0 => by simp [isq]
  | n + 1 => by
    obtain ⟨h1, h2⟩ := isq_spec n
    unfold isq
    split
    · rename_i h
      refine ⟨h, ?_⟩
      have : (isq n + 1 + 1) * (isq n + 1 + 1) = (isq n + 1) * (isq n + 1) + 2 * (isq n + 1) + 1 := by
        rw [Nat.add_mul (isq n + 1) 1, Nat.mul_add (isq n + 1)]; omega
      omega
    · rename_i h
      exact ⟨by omega, by omega⟩
/-- the root of a number, rounded down; 0 of a negative one -/
def iroot (n : Int) : Int := (isq n.toNat : Int)
theorem iroot_nonneg (n : Int) : 0 ≤ iroot n := Int.natCast_nonneg _
theorem iroot_spec {n : Int} (h : 0 ≤ n) : iroot n * iroot n ≤ n ∧ n < (iroot n + 1) * (iroot n + 1) := by
  obtain ⟨h1, h2⟩ := isq_spec n.toNat
  unfold iroot
  constructor
  · have : ((isq n.toNat * isq n.toNat : Nat) : Int) ≤ n := by omega
    rwa [Int.natCast_mul] at this
  · have : n < (((isq n.toNat + 1) * (isq n.toNat + 1) : Nat) : Int) := by omega
    rwa [Int.natCast_mul, Int.natCast_add] at this
theorem sq_le_sq {a b : Int} (h0 : 0 ≤ a) (h : a ≤ b) : a * a ≤ b * b := Int.mul_le_mul h h h0 (by omega)
theorem iroot_eq {n r : Int} (h0 : 0 ≤ r) (h1 : r * r ≤ n) (h2 : n < (r + 1) * (r + 1)) : iroot n = r := by
  have hn : 0 ≤ n := Int.le_trans (Int.mul_nonneg h0 h0) h1
  obtain ⟨k1, k2⟩ := iroot_spec hn
  have k0 := iroot_nonneg n
  rcases Int.lt_trichotomy (iroot n) r with h | h | h
  · have := sq_le_sq (a := iroot n + 1) (b := r) (by omega) (by omega)
    omega
  · exact h
  · have := sq_le_sq (a := r + 1) (b := iroot n) (by omega) (by omega)
    omega
theorem iroot_neg {n : Int} (h : n ≤ 0) : iroot n = 0 := by
  have : n.toNat = 0 := by omega
  unfold iroot
  rw [this]
  rfl
theorem iroot_le {n r : Int} (h0 : 0 ≤ r) (h : n < (r + 1) * (r + 1)) : iroot n ≤ r := by
  rcases Int.lt_or_le n 0 with hn | hn
  · rw [iroot_neg (by omega)]; exact h0
  · obtain ⟨k1, k2⟩ := iroot_spec hn
    refine Int.not_lt.1 (fun hlt => ?_)
    have := sq_le_sq (a := r + 1) (b := iroot n) (by omega) (by omega)
    omega
theorem le_iroot {n r : Int} (h0 : 0 ≤ r) (h : r * r ≤ n) : r ≤ iroot n := by
  have hn : 0 ≤ n := Int.le_trans (Int.mul_nonneg h0 h0) h
  obtain ⟨k1, k2⟩ := iroot_spec hn
  refine Int.not_lt.1 (fun hlt => ?_)
  have := sq_le_sq (a := iroot n + 1) (b := r) (by have := iroot_nonneg n; omega) (by omega)
  omega
theorem iroot_mono {a b : Int} (h : a ≤ b) : iroot a ≤ iroot b := by
  rcases Int.lt_or_le a 0 with ha | ha
  · rw [iroot_neg (by omega)]; exact iroot_nonneg _
  · exact le_iroot (iroot_nonneg _) (Int.le_trans (iroot_spec ha).1 h)
/-- the greatest root of an int64 -/
theorem iroot_top {n : Int} (h : n ≤ 9223372036854775807) : iroot n ≤ 3037000499 := iroot_le (by omega) (by omega)
/-- a product of a number below the greatest root fits -/
theorem sq_bd {a : Int} (h0 : 0 ≤ a) (h : a ≤ 3037000499) : 0 ≤ a * a ∧ a * a ≤ 9223372030926249001 := by
  refine ⟨Int.mul_nonneg h0 h0, ?_⟩
  have := sq_le_sq h0 h
  omega
end Go.Ks
