/- The shares of projectors add up to all; who reaches nothing has none; the brightness lies between the powers: plain arithmetic, no program. -/
import Derived.Test.YthjllledhcfnhaaDoorBright
namespace Go.Ks
open Go.RowKit Go.Lib
theorem sumTo_upd {f : Nat → Int} {i : Nat} {v : Int} : ∀ k, sumTo (upd f i v) k = sumTo f k + (if i < k then v - f i else 0)
  | 0 => by simp [sumTo]
  | k + 1 => by
    have ih := sumTo_upd (f := f) (i := i) (v := v) k
    unfold sumTo
    rw [ih]
    by_cases e : k = i
    · subst e
      rw [if_neg (by omega), if_pos (by omega), upd_at]
      omega
    · have : upd f i v k = f k := if_neg e
      rw [this]
      by_cases h : i < k
      · rw [if_pos h, if_pos (by omega)]; omega
      · rw [if_neg h, if_neg (by omega)]; omega
theorem sumTo_le {f g : Nat → Int} : ∀ k, (∀ j, j < k → f j ≤ g j) → sumTo f k ≤ sumTo g k
  | 0, _ => Int.le_refl _
  | k + 1, h => by
    have ih := sumTo_le k (fun j hj => h j (by omega))
    have := h k (by omega)
    unfold sumTo
    omega
theorem sumTo_mul (f : Nat → Int) (c : Int) : ∀ k, sumTo (fun j => f j * c) k = sumTo f k * c
  | 0 => by simp [sumTo]
  | k + 1 => by
    unfold sumTo
    rw [sumTo_mul f c k, Int.add_mul]
theorem sumTo_add (f g : Nat → Int) : ∀ k, sumTo (fun j => f j + g j) k = sumTo f k + sumTo g k
  | 0 => by simp [sumTo]
  | k + 1 => by
    unfold sumTo
    rw [sumTo_add f g k]
    omega
theorem best_max (f : Nat → Int) : ∀ k j, j ≤ k → f j ≤ f (bestTo f k)
  | 0, j, h => by
    obtain rfl : j = 0 := by omega
    exact Int.le_refl _
  | k + 1, j, h => by
    by_cases q : f (bestTo f k) < f (k + 1)
    · rw [best_yes q]
      by_cases e : j = k + 1
      · rw [e]; exact Int.le_refl _
      · have := best_max f k j (by omega); omega
    · rw [best_no q]
      by_cases e : j = k + 1
      · rw [e]; omega
      · exact best_max f k j (by omega)
def posF (f : Nat → Int) (j : Nat) : Int := if 0 < f j then f j else 0
theorem pos_some {f : Nat → Int} : ∀ k, 0 < sumTo (posF f) k → ∃ j, j < k ∧ 0 < f j
  | 0, h => by simp [sumTo] at h
  | k + 1, h => by
    by_cases q : 0 < f k
    · exact ⟨k, by omega, q⟩
    · unfold sumTo at h
      have : posF f k = 0 := if_neg q
      rw [this] at h
      obtain ⟨j, hj, h2⟩ := pos_some (f := f) k (by omega)
      exact ⟨j, by omega, h2⟩
theorem pos_upd (f : Nat → Int) (i : Nat) : posF (upd f i (-1)) = upd (posF f) i 0 := by
  funext j
  unfold posF upd
  by_cases e : j = i
  · subst e; simp
  · simp only [if_neg e]
theorem step_sum {n : Nat} {q r : Nat → Int} (hn : 0 < n) : ∀ k, sumTo (stepO n q r k).1 n = sumTo q n + (k : Int)
  | 0 => by simp [stepO]
  | k + 1 => by
    have ih := step_sum (q := q) (r := r) hn k
    have hb := bestTo_le (stepO n q r k).2 (n - 1)
    simp only [stepO]
    rw [sumTo_upd, ih, if_pos (by omega)]
    omega
/-- S: each rest is less; T: so much is left -/
theorem step_inv {n : Nat} {q r : Nat → Int} {S T : Int} (hr : ∀ j, j < n → 0 ≤ r j ∧ r j ≤ S - 1) (hT : sumTo r n = S * T) (hn : 0 < n) (hS : 0 < S) : ∀ k : Nat, (k : Int) ≤ T →
    (∀ j, j < n → r j = 0 → (stepO n q r k).1 j = q j ∧ (stepO n q r k).2 j = 0) ∧ (∀ j, j < n → (stepO n q r k).2 j ≤ S - 1) ∧ S * T - (k : Int) * (S - 1) ≤ sumTo (posF (stepO n q r k).2) n
  | 0, _ => by
    refine ⟨fun j hj h => ⟨rfl, h⟩, fun j hj => (hr j hj).2, ?_⟩
    have : sumTo (posF r) n = sumTo r n := sumTo_congr n (fun j hj => by
      unfold posF
      have := (hr j hj).1
      split <;> omega)
    simp only [stepO]
    rw [this, hT]
    simp
  | k + 1, hk => by
    obtain ⟨i1, i2, i3⟩ := step_inv hr hT hn hS (q := q) k (by omega)
    have hb := bestTo_le (stepO n q r k).2 (n - 1)
    have e1 : ((k + 1 : Nat) : Int) * (S - 1) = (k : Int) * (S - 1) + (S - 1) := by rw [Int.natCast_add, Int.add_mul]; simp
    have hpos : 0 < sumTo (posF (stepO n q r k).2) n := by
      have a1 : (k : Int) * (S - 1) ≤ (T - 1) * (S - 1) := Int.mul_le_mul_of_nonneg_right (by omega) (by omega)
      have a2 : (T - 1) * (S - 1) = S * T - T - S + 1 := by rw [Int.sub_mul, Int.mul_sub, Int.mul_comm T S]; omega
      omega
    obtain ⟨j0, hj0, hp0⟩ := pos_some n hpos
    have hbm := best_max (stepO n q r k).2 (n - 1) j0 (by omega)
    have hbv : 0 < (stepO n q r k).2 (bestTo (stepO n q r k).2 (n - 1)) := by omega
    have hbs := i2 (bestTo (stepO n q r k).2 (n - 1)) (by omega)
    simp only [stepO]
    generalize bestTo (stepO n q r k).2 (n - 1) = b at *
    refine ⟨fun j hj h => ?_, fun j hj => ?_, ?_⟩
    · obtain ⟨h1, h2⟩ := i1 j hj h
      have hne : j ≠ b := fun e => by subst e; omega
      unfold upd
      rw [if_neg hne, if_neg hne]
      exact ⟨h1, h2⟩
    · unfold upd
      have := i2 j hj
      split <;> omega
    · rw [pos_upd, sumTo_upd, if_pos (by omega), e1]
      have : posF (stepO n q r k).2 b = (stepO n q r k).2 b := if_pos hbv
      rw [this]
      omega
section
variable {l : Nat → ProjectorD} {az alt : Int} {n : Nat}
theorem rem_sum : sumTo (remF l az alt n) n = rawS l az alt n * leftN l az alt n := by
  have h1 : sumTo (fun j => quoF l az alt n j * rawS l az alt n + remF l az alt n j) n = sumTo (fun j => rawF l az alt j * 1000) n := sumTo_congr n (fun j _ => by
    have := Int.ediv_mul_add_emod (1000 * rawF l az alt j) (rawS l az alt n)
    unfold quoF remF
    omega)
  rw [sumTo_add, sumTo_mul, sumTo_mul] at h1
  have h2 : sumTo (rawF l az alt) n = rawS l az alt n := rfl
  unfold leftN
  rw [Int.mul_sub, Int.mul_comm (rawS l az alt n) (sumTo _ n)]
  omega
theorem rem_bd (hs : 0 < rawS l az alt n) (j : Nat) : 0 ≤ remF l az alt n j ∧ remF l az alt n j ≤ rawS l az alt n - 1 := by
  have h0 := Int.emod_nonneg (1000 * rawF l az alt j) (by omega : rawS l az alt n ≠ 0)
  have h1 := Int.emod_lt_of_pos (1000 * rawF l az alt j) hs
  unfold remF
  omega
theorem left_nonneg (hs : 0 < rawS l az alt n) : 0 ≤ leftN l az alt n := by
  have h := rem_sum (l := l) (az := az) (alt := alt) (n := n)
  have h2 := (sumTo_bd (f := remF l az alt n) (m := rawS l az alt n - 1) (by omega) n (fun j _ => rem_bd hs j)).1
  rw [h] at h2
  refine Int.le_of_not_gt (fun q => ?_)
  have := Int.mul_neg_of_pos_of_neg hs q
  omega
theorem shares_sum (hs : 0 < rawS l az alt n) (hn : 0 < n) : sumTo (sharesL l az alt n) n = 1000 := by
  have h := left_nonneg hs
  unfold sharesL
  rw [step_sum hn]
  unfold leftN at *
  omega
theorem share_none (hs : 0 < rawS l az alt n) (hn : 0 < n) {k : Nat} (hk : k < n) (h : rawF l az alt k = 0) : sharesL l az alt n k = 0 := by
  have h0 := left_nonneg hs
  have hr : remF l az alt n k = 0 := by unfold remF; rw [h]; simp
  have hq : quoF l az alt n k = 0 := by unfold quoF; rw [h]; simp
  have := (step_inv (q := quoF l az alt n) (fun j _ => rem_bd hs j) (rem_sum (l := l) (az := az) (alt := alt) (n := n)) hn hs (leftN l az alt n).toNat (by omega)).1 k hk hr
  unfold sharesL
  rw [this.1, hq]
/-- the least and the greatest power of those of the first k that reach -/
def lowTo (l : Nat → ProjectorD) (az alt : Int) : Nat → Int
  | 0 => 1000
  | k + 1 => if 0 < rawF l az alt k then min (lowTo l az alt k) (l k).f4 else lowTo l az alt k
def highTo (l : Nat → ProjectorD) (az alt : Int) : Nat → Int
  | 0 => 0
  | k + 1 => if 0 < rawF l az alt k then max (highTo l az alt k) (l k).f4 else highTo l az alt k
theorem low_le {k j : Nat} (hj : j < k) (h : 0 < rawF l az alt j) : lowTo l az alt k ≤ (l j).f4 ∧ (l j).f4 ≤ highTo l az alt k := by
  induction k with
  | zero => omega
  | succ k ih =>
    unfold lowTo highTo
    by_cases e : j = k
    · subst e
      rw [if_pos h, if_pos h]
      omega
    · have := ih (by omega)
      split <;> omega
theorem lowhigh_bd (hp : ∀ k, k < n → 1 ≤ (l k).f4 ∧ (l k).f4 ≤ 1000) : ∀ k, k ≤ n → (1 ≤ lowTo l az alt k ∧ lowTo l az alt k ≤ 1000) ∧ (0 ≤ highTo l az alt k ∧ highTo l az alt k ≤ 1000)
  | 0, _ => by simp [lowTo, highTo]
  | k + 1, hk => by
    have ih := lowhigh_bd hp k (by omega)
    have := hp k (by omega)
    unfold lowTo highTo
    split <;> omega
theorem bright_between (hs : 0 < rawS l az alt n) (hn : 0 < n) (hf : ∀ k, k < n → 5000 ≤ (l k).f3) : lowTo l az alt n ≤ brightV n l az alt ∧ brightV n l az alt ≤ highTo l az alt n := by
  have hsum := shares_sum hs hn
  have h0 : ∀ k, k < n → 0 ≤ sharesL l az alt n k := fun k hk => (sharesL_bd (az := az) (alt := alt) hf (by omega) hk).1
  have each : ∀ j, j < n → sharesL l az alt n j * lowTo l az alt n ≤ litF l az alt n j ∧ litF l az alt n j ≤ sharesL l az alt n j * highTo l az alt n := fun j hj => by
    have hr := rawF_bd (az := az) (alt := alt) hf hj
    unfold litF
    by_cases q : 0 < rawF l az alt j
    · obtain ⟨a, b⟩ := low_le hj q
      exact ⟨Int.mul_le_mul_of_nonneg_left a (h0 j hj), Int.mul_le_mul_of_nonneg_left b (h0 j hj)⟩
    · rw [share_none hs hn hj (by omega)]
      simp
  have s1 := sumTo_le (f := fun j => sharesL l az alt n j * lowTo l az alt n) (g := litF l az alt n) n (fun j hj => (each j hj).1)
  have s2 := sumTo_le (f := litF l az alt n) (g := fun j => sharesL l az alt n j * highTo l az alt n) n (fun j hj => (each j hj).2)
  rw [sumTo_mul, hsum] at s1 s2
  unfold brightV
  omega
end
end Go.Ks
