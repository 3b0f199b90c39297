/- Sines by the table, arcs, directions, views: bounds of the rounding: plain arithmetic, no program. -/
import Derived.Test.YthjllledhcfnhaaGreatDoorDomeMath
namespace Go.Ks.Num
open Go.Ks
/-- rounding: what is rounded lies within half a unit -/
theorem divr_near {a b : Int} (hb : 0 < b) : 2 * a - b ≤ 2 * b * divr a b ∧ 2 * b * divr a b ≤ 2 * a + b := by
  have hb2 : 0 < 2 * b := by omega
  rcases Int.lt_or_le a 0 with h | h
  · rw [divr_neg h]
    have h1 := Int.mul_ediv_add_emod (2 * -a + b) (2 * b)
    have h2 := Int.emod_nonneg (2 * -a + b) (by omega : 2 * b ≠ 0)
    have h3 := Int.emod_lt_of_pos (2 * -a + b) hb2
    rw [Int.mul_neg]
    omega
  · rw [divr_pos h]
    have h1 := Int.mul_ediv_add_emod (2 * a + b) (2 * b)
    have h2 := Int.emod_nonneg (2 * a + b) (by omega : 2 * b ≠ 0)
    have h3 := Int.emod_lt_of_pos (2 * a + b) hb2
    omega
theorem sq_nn (x : Int) : 0 ≤ x * x := by
  rcases Int.le_total 0 x with h0 | h0
  · exact Int.mul_nonneg h0 h0
  · have := Int.mul_nonneg (a := -x) (b := -x) (by omega) (by omega)
    rwa [Int.neg_mul_neg] at this
/-- the table's squares -/
theorem tab_sq : ∀ k : Nat, k < 91 → tab k * tab k + tab (90 - k) * tab (90 - k) ≤ 1000001300000 := by decide
theorem tab_sq2 : ∀ k : Nat, k < 91 → 999998700000 ≤ tab k * tab k + tab (90 - k) * tab (90 - k) := by decide
theorem tab_dd : ∀ k : Nat, k < 90 → (tab (k + 1) - tab k) * (tab (k + 1) - tab k) + (tab (90 - k) - tab (89 - k)) * (tab (90 - k) - tab (89 - k)) ≤ 304650000 := by decide
theorem tab_rise : ∀ k : Nat, k < 90 → 0 ≤ tab k ∧ 0 ≤ tab (89 - k) ∧ 0 ≤ tab (k + 1) - tab k ∧ tab (k + 1) - tab k ≤ 17452 ∧ 0 ≤ tab (90 - k) - tab (89 - k) ∧ tab (90 - k) - tab (89 - k) ≤ 17452 ∧ tab (k + 1) ≤ 1000000 ∧ tab (90 - k) ≤ 1000000 ∧ tab k + tab (90 - k) ≤ 1414214 ∧ tab (k + 1) + tab (89 - k) ≤ 1414214 := by decide
theorem sinQ_of (k : Nat) {r : Int} (h0 : 0 ≤ r) (h1 : r < 1000) : sinQ (1000 * (k : Int) + r) = tab k + divr ((tab (k + 1) - tab k) * r) 1000 := by
  unfold sinQ
  rw [show ((1000 * (k : Int) + r) / 1000).toNat = k by omega, show (1000 * (k : Int) + r) % 1000 = r by omega]
/-- sine and cosine of 1000 k + r lie on the chord -/
theorem chord (k : Nat) (hk : k < 90) {r : Int} (h0 : 0 ≤ r) (h1 : r ≤ 1000) :
    (2 * (1000 * tab k + (tab (k + 1) - tab k) * r) - 1000 ≤ 2 * (1000 * sinQ (1000 * (k : Int) + r)) ∧ 2 * (1000 * sinQ (1000 * (k : Int) + r)) ≤ 2 * (1000 * tab k + (tab (k + 1) - tab k) * r) + 1000) ∧
    (2 * (1000 * tab (90 - k) - (tab (90 - k) - tab (89 - k)) * r) - 1000 ≤ 2 * (1000 * sinQ (90000 - (1000 * (k : Int) + r))) ∧ 2 * (1000 * sinQ (90000 - (1000 * (k : Int) + r))) ≤ 2 * (1000 * tab (90 - k) - (tab (90 - k) - tab (89 - k)) * r) + 1000) := by
  constructor
  · rcases Int.lt_or_le r 1000 with h | h
    · rw [sinQ_of k h0 h]
      have := divr_near (a := (tab (k + 1) - tab k) * r) (b := 1000) (by decide)
      omega
    · obtain rfl : r = 1000 := by omega
      have := sinQ_of (k + 1) (r := 0) (by omega) (by omega)
      rw [show 1000 * (k : Int) + 1000 = 1000 * ((k + 1 : Nat) : Int) + 0 by omega, this, Int.mul_zero]
      have : divr 0 1000 = 0 := by decide
      omega
  · rcases Int.lt_or_le 0 r with h | h
    · have e : 90000 - (1000 * (k : Int) + r) = 1000 * ((89 - k : Nat) : Int) + (1000 - r) := by omega
      rw [e, sinQ_of (89 - k) (by omega) (by omega), show 89 - k + 1 = 90 - k by omega]
      have := divr_near (a := (tab (90 - k) - tab (89 - k)) * (1000 - r)) (b := 1000) (by decide)
      have e2 := Int.mul_sub (tab (90 - k) - tab (89 - k)) 1000 r
      omega
    · obtain rfl : r = 0 := by omega
      rw [show 90000 - (1000 * (k : Int) + 0) = 1000 * ((90 - k : Nat) : Int) + 0 by omega, sinQ_of (90 - k) (by omega) (by omega), Int.mul_zero, Int.mul_zero]
      have : divr 0 1000 = 0 := by decide
      omega
theorem split1000 {a : Int} (h0 : 0 ≤ a) (h1 : a ≤ 90000) : ∃ (k : Nat) (r : Int), k < 90 ∧ 0 ≤ r ∧ r ≤ 1000 ∧ a = 1000 * (k : Int) + r := by
  rcases Int.lt_or_le a 90000 with h | h
  · exact ⟨(a / 1000).toNat, a % 1000, by omega, by omega, by omega, by omega⟩
  · exact ⟨89, 1000, by omega, by omega, by omega, by omega⟩
theorem near_sq {x y m : Int} (hx : 0 ≤ x) (h1 : x - m ≤ y) (h2 : y ≤ x + m) : x * x - 2 * m * x ≤ y * y ∧ y * y ≤ x * x + 2 * m * x + m * m := by
  have a1 : 0 ≤ (x + m - y) * (x + m + y) ∨ x + m + y < 0 := by
    rcases Int.lt_or_le (x + m + y) 0 with h | h
    · exact .inr h
    · exact .inl (Int.mul_nonneg (by omega) h)
  have e1 : (x + m - y) * (x + m + y) = x * x + 2 * m * x + m * m - y * y := by grind
  have a2 := sq_nn (y - x)
  have e2 : (y - x) * (y - x) = y * y - 2 * x * (y - x) - x * x := by grind
  have a3 : x * -m ≤ x * (y - x) := Int.mul_le_mul_of_nonneg_left (by omega) hx
  have e3 : x * -m = -(m * x) := by grind
  have e4 : 2 * m * x = 2 * (m * x) := by grind
  have e5 : 2 * x * (y - x) = 2 * (x * (y - x)) := by grind
  refine ⟨by omega, ?_⟩
  rcases a1 with a1 | a1
  · omega
  · omega
/-- the square of sine and cosine -/
theorem norm_q {a : Int} (h0 : 0 ≤ a) (h1 : a ≤ 90000) : 999920000000 ≤ sinQ a * sinQ a + sinQ (90000 - a) * sinQ (90000 - a) ∧ sinQ a * sinQ a + sinQ (90000 - a) * sinQ (90000 - a) ≤ 1000004000000 := by
  obtain ⟨k, r, hk, hr0, hr1, rfl⟩ := split1000 h0 h1
  obtain ⟨⟨c1, c2⟩, c3, c4⟩ := chord k hk hr0 hr1
  generalize sinQ (1000 * (k : Int) + r) = S at *
  generalize sinQ (90000 - (1000 * (k : Int) + r)) = C at *
  have q1 := tab_sq k (by omega)
  have q2 := tab_sq2 k (by omega)
  have q3 := tab_sq (k + 1) (by omega)
  have q4 := tab_sq2 (k + 1) (by omega)
  rw [show 90 - (k + 1) = 89 - k by omega] at q3 q4
  have q5 := tab_dd k hk
  obtain ⟨t1, t2, t3, t4, t5, t6, t7, t8, t9, t10⟩ := tab_rise k hk
  generalize hp : tab k = p at *
  generalize hp' : tab (k + 1) = p' at *
  generalize hq : tab (90 - k) = q at *
  generalize hq' : tab (89 - k) = q' at *
  clear hp hp' hq hq'
  have hid : (1000 * p + (p' - p) * r) * (1000 * p + (p' - p) * r) + (1000 * q - (q - q') * r) * (1000 * q - (q - q') * r) = 1000 * ((1000 - r) * (p * p + q * q) + r * (p' * p' + q' * q')) - r * (1000 - r) * ((p' - p) * (p' - p) + (q - q') * (q - q')) := by grind
  have b1 : (1000 - r) * 999998700000 ≤ (1000 - r) * (p * p + q * q) := Int.mul_le_mul_of_nonneg_left (by omega) (by omega)
  have b2 : r * 999998700000 ≤ r * (p' * p' + q' * q') := Int.mul_le_mul_of_nonneg_left (by omega) (by omega)
  have b3 : (1000 - r) * (p * p + q * q) ≤ (1000 - r) * 1000001300000 := Int.mul_le_mul_of_nonneg_left (by omega) (by omega)
  have b4 : r * (p' * p' + q' * q') ≤ r * 1000001300000 := Int.mul_le_mul_of_nonneg_left (by omega) (by omega)
  have rr : 0 ≤ r * (1000 - r) ∧ r * (1000 - r) ≤ 250000 := by
    refine ⟨Int.mul_nonneg (by omega) (by omega), ?_⟩
    have := sq_nn (r - 500)
    have e : (r - 500) * (r - 500) = 250000 - r * (1000 - r) := by grind
    omega
  have dd := sq_nn (p' - p)
  have dd2 := sq_nn (q - q')
  have b5 : 0 ≤ r * (1000 - r) * ((p' - p) * (p' - p) + (q - q') * (q - q')) := Int.mul_nonneg rr.1 (by omega)
  have b6 : r * (1000 - r) * ((p' - p) * (p' - p) + (q - q') * (q - q')) ≤ 250000 * 304650000 := Int.mul_le_mul rr.2 q5 (by omega) (by omega)
  have pr : 0 ≤ (p' - p) * r := Int.mul_nonneg (by omega) (by omega)
  have pr2 : (p' - p) * r ≤ (p' - p) * 1000 := Int.mul_le_mul_of_nonneg_left (by omega) (by omega)
  have qr : 0 ≤ (q - q') * r := Int.mul_nonneg (by omega) (by omega)
  have qr2 : (q - q') * r ≤ (q - q') * 1000 := Int.mul_le_mul_of_nonneg_left (by omega) (by omega)
  have sm : 1000 * p + (p' - p) * r + (1000 * q - (q - q') * r) ≤ 1500000000 := by omega
  obtain ⟨n1, n2⟩ := near_sq (x := 1000 * p + (p' - p) * r) (y := 1000 * S) (m := 500) (by omega) (by omega) (by omega)
  obtain ⟨n3, n4⟩ := near_sq (x := 1000 * q - (q - q') * r) (y := 1000 * C) (m := 500) (by omega) (by omega) (by omega)
  generalize 1000 * p + (p' - p) * r = X at *
  generalize 1000 * q - (q - q') * r = Y at *
  have es : 1000 * S * (1000 * S) = 1000000 * (S * S) := by grind
  have ec : 1000 * C * (1000 * C) = 1000000 * (C * C) := by grind
  omega
/-- a step of the sines -/
theorem sin_step {a : Int} (h0 : 0 ≤ a) (h1 : a < 90000) : 0 ≤ sinQ (a + 1) - sinQ a ∧ sinQ (a + 1) - sinQ a ≤ 18 := by
  obtain ⟨k, r, hk, hr0, hr1, e⟩ : ∃ (k : Nat) (r : Int), k < 90 ∧ 0 ≤ r ∧ r < 1000 ∧ a = 1000 * (k : Int) + r := ⟨(a / 1000).toNat, a % 1000, by omega, by omega, by omega, by omega⟩
  subst e
  have t := tab_rise k hk
  have e1 := sinQ_of k hr0 hr1
  have c1 := (chord k hk hr0 (by omega)).1
  have c2 := (chord k hk (r := r + 1) (by omega) (by omega)).1
  have em := Int.mul_add (tab (k + 1) - tab k) r 1
  rw [show 1000 * (k : Int) + r + 1 = 1000 * (k : Int) + (r + 1) by omega]
  refine ⟨?_, by omega⟩
  rcases Int.lt_or_le (r + 1) 1000 with h | h
  · rw [e1, sinQ_of k (by omega) h]
    have := divr_mono (a := (tab (k + 1) - tab k) * r) (a' := (tab (k + 1) - tab k) * (r + 1)) (b := 1000) (by decide) (by omega)
    omega
  · obtain rfl : r = 999 := by omega
    have b := sinQ_bd (a := 1000 * (k : Int) + 999) (by omega) (by omega)
    rw [show ((1000 * (k : Int) + 999) / 1000).toNat = k by omega] at b
    have e2 := sinQ_of (k + 1) (r := 0) (by omega) (by omega)
    rw [Int.mul_zero, show divr 0 1000 = 0 by decide] at e2
    rw [show 1000 * (k : Int) + (999 + 1) = 1000 * ((k + 1 : Nat) : Int) + 0 by omega, e2]
    omega
theorem sin_mono {a : Int} (h0 : 0 ≤ a) : ∀ n : Nat, a + n ≤ 90000 → sinQ a ≤ sinQ (a + n)
  | 0, _ => by simp
  | n + 1, h => by
    have ih := sin_mono h0 n (by omega)
    have := (sin_step (a := a + n) (by omega) (by omega)).1
    rw [show a + ((n + 1 : Nat) : Int) = a + n + 1 by omega]
    omega
theorem sin_le {a b : Int} (h0 : 0 ≤ a) (h : a ≤ b) (h1 : b ≤ 90000) : sinQ a ≤ sinQ b := by
  have := sin_mono h0 (b - a).toNat (by omega)
  rwa [show a + ((b - a).toNat : Int) = b by omega] at this
theorem tab_steep : ∀ k : Nat, k < 47 → 11900 ≤ tab (k + 1) - tab k := by decide
theorem sin_steep {a : Int} (h0 : 0 ≤ a) (h1 : a < 47000) : 11 ≤ sinQ (a + 1) - sinQ a := by
  obtain ⟨k, r, hk, hr0, hr1, e⟩ : ∃ (k : Nat) (r : Int), k < 47 ∧ 0 ≤ r ∧ r < 1000 ∧ a = 1000 * (k : Int) + r := ⟨(a / 1000).toNat, a % 1000, by omega, by omega, by omega, by omega⟩
  subst e
  have t := tab_steep k hk
  have c1 := (chord k (by omega) hr0 (by omega)).1
  have c2 := (chord k (by omega) (r := r + 1) (by omega) (by omega)).1
  have em := Int.mul_add (tab (k + 1) - tab k) r 1
  rw [show 1000 * (k : Int) + r + 1 = 1000 * (k : Int) + (r + 1) by omega]
  omega
theorem sin_far {a : Int} (h0 : 0 ≤ a) : ∀ n : Nat, a + n ≤ 47000 → sinQ a + 11 * n ≤ sinQ (a + n)
  | 0, _ => by simp
  | n + 1, h => by
    have ih := sin_far h0 n (by omega)
    have := sin_steep (a := a + n) (by omega) (by omega)
    rw [show a + ((n + 1 : Nat) : Int) = a + n + 1 by omega]
    omega
theorem sinQ0 : sinQ 0 = 0 := by decide
theorem sinQ90 : sinQ 90000 = 1000000 := by decide
theorem sinQ45 : sinQ 45000 = 707107 := by decide
/-- sine and cosine by quarters -/
theorem quad (a : Int) : ∃ b : Int, (0 ≤ b ∧ b ≤ 90000) ∧ ((nrm a = b ∧ sine a = sinQ b ∧ cosi a = sinQ (90000 - b)) ∨ (nrm a = 180000 - b ∧ sine a = sinQ b ∧ cosi a = -sinQ (90000 - b)) ∨ (nrm a = 180000 + b ∧ sine a = -sinQ b ∧ cosi a = -sinQ (90000 - b)) ∨ (0 < b ∧ nrm a = 360000 - b ∧ sine a = -sinQ b ∧ cosi a = sinQ (90000 - b))) := by
  have hb := nrm_bd a
  have hs : sine a = sine (nrm a) := (sine_nrm a).symm
  have hc : cosi a = cosi (nrm a) := (cosi_nrm a).symm
  rw [hs, hc]
  generalize nrm a = n at *
  have z0 := sinQ0
  clear hs hc
  have cs : cosi n = sine (n + 90000) := by unfold cosi; rw [nrm_id hb.1 hb.2]
  rw [cs]
  by_cases c1 : n ≤ 90000
  · refine ⟨n, ⟨by omega, c1⟩, .inl ⟨rfl, ?_, ?_⟩⟩
    · rw [sine_half (by omega) (by omega)]; unfold sinH; rw [if_neg (by omega)]
    · by_cases c : n = 90000
      · subst c; decide
      · rw [sine_half (by omega) (by omega)]; unfold sinH
        by_cases c0 : n = 0
        · subst c0; decide
        · rw [if_pos (by omega)]; congr 1; omega
  by_cases c2 : n ≤ 180000
  · refine ⟨180000 - n, ⟨by omega, by omega⟩, .inr (.inl ⟨by omega, ?_, ?_⟩)⟩
    · by_cases c : n = 180000
      · subst c; decide
      · rw [sine_half (by omega) (by omega)]; unfold sinH; rw [if_pos (by omega)]
    · unfold sine
      rw [nrm_id (by omega) (by omega), if_pos (by omega)]
      unfold sinH; rw [if_neg (by omega)]; congr 2; omega
  by_cases c3 : n ≤ 270000
  · refine ⟨n - 180000, ⟨by omega, by omega⟩, .inr (.inr (.inl ⟨by omega, ?_, ?_⟩))⟩
    · unfold sine
      rw [nrm_id (by omega) (by omega), if_pos (by omega)]
      unfold sinH; rw [if_neg (by omega)]
    · by_cases c : n = 270000
      · subst c; decide
      · unfold sine
        rw [nrm_id (by omega) (by omega), if_pos (by omega)]
        unfold sinH; rw [if_pos (by omega)]; congr 2; omega
  · refine ⟨360000 - n, ⟨by omega, by omega⟩, .inr (.inr (.inr ⟨by omega, by omega, ?_, ?_⟩))⟩
    · unfold sine
      rw [nrm_id (by omega) (by omega), if_pos (by omega)]
      unfold sinH; rw [if_pos (by omega)]; congr 2; omega
    · unfold sine
      rw [show nrm (n + 90000) = n - 270000 by unfold nrm; omega, if_neg (by omega)]
      unfold sinH; rw [if_neg (by omega)]; congr 1; omega
theorem neg_sq (x : Int) : -x * -x = x * x := Int.neg_mul_neg x x
theorem norm_a (a : Int) : 999920000000 ≤ sine a * sine a + cosi a * cosi a ∧ sine a * sine a + cosi a * cosi a ≤ 1000004000000 := by
  obtain ⟨b, ⟨b0, b1⟩, h⟩ := quad a
  have := norm_q b0 b1
  rcases h with ⟨_, e1, e2⟩ | ⟨_, e1, e2⟩ | ⟨_, e1, e2⟩ | ⟨_, _, e1, e2⟩ <;> rw [e1, e2] <;> (try rw [neg_sq]) <;> (try rw [neg_sq]) <;> exact this
theorem sine_flip (a : Int) : sine (180000 - a) = sine a := by
  have hb := nrm_bd a
  have z0 := sinQ0
  by_cases h : nrm a ≤ 180000
  · have e : nrm (180000 - a) = 180000 - nrm a := by unfold nrm at *; omega
    unfold sine
    rw [e]
    by_cases c : nrm a = 180000
    · rw [c]; decide
    by_cases c0 : nrm a = 0
    · rw [c0]; decide
    rw [if_neg (by omega), if_neg (by omega)]
    unfold sinH
    by_cases c1 : 90000 < nrm a
    · rw [if_neg (by omega), if_pos c1]
    · rw [if_neg c1]
      by_cases c2 : nrm a = 90000
      · rw [c2]; decide
      · rw [if_pos (by omega)]; congr 1; omega
  · have e : nrm (180000 - a) = 540000 - nrm a := by unfold nrm at *; omega
    unfold sine
    rw [e, if_pos (by omega), if_pos (by omega)]
    unfold sinH
    by_cases c1 : 270000 < nrm a
    · rw [if_neg (by omega), if_pos (by omega)]; congr 2; omega
    · rw [if_neg (c := 90000 < nrm a - 180000) (by omega)]
      by_cases c2 : nrm a = 270000
      · rw [c2]; decide
      · rw [if_pos (by omega)]; congr 2; omega
theorem sine_add (a : Int) : sine (nrm a + 90000) = sine (a + 90000) := by
  rw [← sine_nrm (nrm a + 90000), ← sine_nrm (a + 90000)]
  congr 1
  unfold nrm
  omega
theorem cosi_comp (a : Int) : cosi (nrm (90000 - a)) = sine a := by
  rw [cosi_nrm]
  unfold cosi
  rw [sine_add, show 90000 - a + 90000 = 180000 - a by omega, sine_flip]
theorem sine_comp (a : Int) : sine (nrm (90000 - a)) = cosi a := by
  rw [sine_nrm]
  unfold cosi
  rw [sine_add, ← sine_flip, show 180000 - (90000 - a) = a + 90000 by omega]
/-- the found angle answers yes, the one before it no -/
theorem bsr_spec (p : Int → Bool) : ∀ (n : Nat) (lo : Int), p (lo + n) = true → p (bsr p lo n) = true ∧ (bsr p lo n = lo ∨ p (bsr p lo n - 1) = false) := by
  intro n
  induction n using Nat.strongRecOn with
  | _ n ih =>
    intro lo hp
    rcases Nat.eq_zero_or_pos n with rfl | h
    · rw [bsr_zero]; exact ⟨by simpa using hp, .inl rfl⟩
    · cases hm : p (lo + (n / 2 : Nat))
      · rw [bsr_no h hm]
        have := ih (n - n / 2 - 1) (by omega) (lo + (n / 2 : Nat) + 1) (by rw [show lo + ((n / 2 : Nat) : Int) + 1 + ((n - n / 2 - 1 : Nat) : Int) = lo + n by omega]; exact hp)
        refine ⟨this.1, .inr ?_⟩
        rcases this.2 with e | e
        · rw [e, show lo + ((n / 2 : Nat) : Int) + 1 - 1 = lo + ((n / 2 : Nat) : Int) by omega]; exact hm
        · exact e
      · rw [bsr_yes h hm]
        exact ih (n / 2) (by omega) lo hm
theorem sine_q {m : Int} (h0 : 0 ≤ m) (h1 : m ≤ 90000) : sine m = sinQ m ∧ cosi m = sinQ (90000 - m) := by
  have hn := nrm_id h0 (by omega)
  obtain ⟨b, ⟨b0, b1⟩, h⟩ := quad m
  rw [hn] at h
  have z := sinQ0
  rcases h with ⟨e, e1, e2⟩ | ⟨e, e1, e2⟩ | ⟨e, e1, e2⟩ | ⟨_, e, e1, e2⟩
  · subst e; exact ⟨e1, e2⟩
  · obtain rfl : b = 90000 := by omega
    obtain rfl : m = 90000 := by omega
    refine ⟨e1, ?_⟩; rw [e2]; decide
  · omega
  · omega
theorem arcE_cross {u v : Int} (h0 : 0 ≤ u) (h1 : u ≤ v) (h2 : 0 < v) : 0 ≤ sinQ (arcE u v) * v - sinQ (90000 - arcE u v) * u ∧ sinQ (arcE u v) * v - sinQ (90000 - arcE u v) * u ≤ 18 * (u + v) := by
  obtain ⟨m0, m1⟩ := arcE_bd u v
  have top : arcP u v (0 + (45000 : Nat)) = true := by
    unfold arcP
    rw [decide_eq_true_iff]
    have e := sine_q (m := 0 + (45000 : Nat)) (by omega) (by omega)
    rw [e.1, e.2, show (90000 - (0 + ((45000 : Nat) : Int))) = 45000 by omega, show (0 + ((45000 : Nat) : Int)) = 45000 by omega, sinQ45]
    omega
  obtain ⟨hp, hq⟩ := bsr_spec (arcP u v) 45000 0 top
  have e : bsr (arcP u v) 0 45000 = arcE u v := rfl
  rw [e] at hp hq
  generalize arcE u v = m at *
  have q := sine_q (m := m) (by omega) (by omega)
  unfold arcP at hp
  rw [decide_eq_true_iff, q.1, q.2] at hp
  refine ⟨by omega, ?_⟩
  by_cases mz : m = 0
  · subst mz
    rw [show (90000 : Int) - 0 = 90000 by omega, sinQ0, sinQ90] at hp ⊢
    omega
  · rcases hq with hq | hq
    · exact absurd hq mz
    · have q1 := sine_q (m := m - 1) (by omega) (by omega)
      unfold arcP at hq
      rw [decide_eq_false_iff_not, q1.1, q1.2] at hq
      have s1 := sin_step (a := m - 1) (by omega) (by omega)
      have s2 := sin_step (a := 90000 - m) (by omega) (by omega)
      rw [show m - 1 + 1 = m by omega] at s1
      rw [show 90000 - m + 1 = 90000 - (m - 1) by omega] at s2
      generalize sinQ m = S at *
      generalize sinQ (m - 1) = S' at *
      generalize sinQ (90000 - m) = C at *
      generalize sinQ (90000 - (m - 1)) = C' at *
      have d1 : (S - S') * v ≤ 18 * v := Int.mul_le_mul_of_nonneg_right (by omega) (by omega)
      have d2 : (C' - C) * u ≤ 18 * u := Int.mul_le_mul_of_nonneg_right (by omega) h0
      rw [Int.sub_mul] at d1 d2
      omega
theorem iabs_nn (x : Int) : 0 ≤ iabs x ∧ x ≤ iabs x ∧ -x ≤ iabs x := by unfold iabs; split <;> omega
theorem sinQ45_le {m : Int} (h0 : 0 ≤ m) (h1 : m ≤ 45000) : 707107 ≤ sinQ (90000 - m) := by
  have := sin_le (a := 45000) (b := 90000 - m) (by omega) (by omega) (by omega)
  rwa [sinQ45] at this
/-- the angle in the first quarter -/
theorem arcB_cross {y x : Int} (h : ¬ (x = 0 ∧ y = 0)) :
    (-(18 * (iabs x + iabs y)) ≤ iabs x * sinQ (arcB y x) - iabs y * sinQ (90000 - arcB y x) ∧ iabs x * sinQ (arcB y x) - iabs y * sinQ (90000 - arcB y x) ≤ 18 * (iabs x + iabs y)) ∧
    707107 * iabs x ≤ iabs x * sinQ (90000 - arcB y x) + iabs y * sinQ (arcB y x) ∧ 707107 * iabs y ≤ iabs x * sinQ (90000 - arcB y x) + iabs y * sinQ (arcB y x) := by
  have ax := iabs_nn x
  have ay := iabs_nn y
  unfold arcB
  by_cases c : iabs x < iabs y
  · rw [if_pos c, Int.min_eq_left (by omega), Int.max_eq_right (by omega)]
    have mb := arcE_bd (iabs x) (iabs y)
    have k := arcE_cross (u := iabs x) (v := iabs y) (by omega) (by omega) (by omega)
    have s0 := (sinQ_unit (a := arcE (iabs x) (iabs y)) (by omega) (by omega)).1
    have s1 := sinQ45_le mb.1 mb.2
    generalize arcE (iabs x) (iabs y) = m' at *
    rw [Int.sub_sub_self]
    generalize sinQ m' = S at *
    generalize sinQ (90000 - m') = C at *
    generalize iabs x = X at *
    generalize iabs y = Y at *
    have p1 := Int.mul_nonneg (a := X) (b := S) (by omega) (by omega)
    have p2 : Y * 707107 ≤ Y * C := Int.mul_le_mul_of_nonneg_left s1 (by omega)
    have c1 := Int.mul_comm S Y
    have c2 := Int.mul_comm C X
    omega
  · rw [if_neg c, Int.min_eq_right (by omega), Int.max_eq_left (by omega)]
    have mb := arcE_bd (iabs y) (iabs x)
    have k := arcE_cross (u := iabs y) (v := iabs x) (by omega) (by omega) (by omega)
    have s0 := (sinQ_unit (a := arcE (iabs y) (iabs x)) (by omega) (by omega)).1
    have s1 := sinQ45_le mb.1 mb.2
    generalize arcE (iabs y) (iabs x) = m at *
    generalize sinQ m = S at *
    generalize sinQ (90000 - m) = C at *
    generalize iabs x = X at *
    generalize iabs y = Y at *
    have p1 := Int.mul_nonneg (a := Y) (b := S) (by omega) (by omega)
    have p2 : X * 707107 ≤ X * C := Int.mul_le_mul_of_nonneg_left s1 (by omega)
    have c1 := Int.mul_comm S X
    have c2 := Int.mul_comm C Y
    omega
/-- sine and cosine of 180000 - b, 180000 + b, 360000 - b -/
theorem quad2 {b : Int} (h0 : 0 ≤ b) (h1 : b ≤ 90000) : (sine (180000 - b) = sinQ b ∧ cosi (180000 - b) = -sinQ (90000 - b)) ∧ (sine (180000 + b) = -sinQ b ∧ cosi (180000 + b) = -sinQ (90000 - b)) ∧ (sine (nrm (-b)) = -sinQ b ∧ cosi (nrm (-b)) = sinQ (90000 - b)) := by
  have z := sinQ0
  have z9 := sinQ90
  refine ⟨?_, ?_, ?_⟩
  · obtain ⟨c, ⟨c0, c1⟩, h⟩ := quad (180000 - b)
    rw [nrm_id (by omega) (by omega)] at h
    rcases h with ⟨e, e1, e2⟩ | ⟨e, e1, e2⟩ | ⟨e, e1, e2⟩ | ⟨_, e, e1, e2⟩
    · obtain rfl : b = 90000 := by omega
      obtain rfl : c = 90000 := by omega
      refine ⟨e1, ?_⟩; rw [e2]; decide
    · obtain rfl : c = b := by omega
      exact ⟨e1, e2⟩
    · obtain rfl : b = 0 := by omega
      obtain rfl : c = 0 := by omega
      refine ⟨?_, e2⟩; rw [e1]; decide
    · omega
  · obtain ⟨c, ⟨c0, c1⟩, h⟩ := quad (180000 + b)
    rw [nrm_id (by omega) (by omega)] at h
    rcases h with ⟨e, e1, e2⟩ | ⟨e, e1, e2⟩ | ⟨e, e1, e2⟩ | ⟨_, e, e1, e2⟩
    · omega
    · obtain rfl : b = 0 := by omega
      obtain rfl : c = 0 := by omega
      refine ⟨?_, e2⟩; rw [e1]; decide
    · obtain rfl : c = b := by omega
      exact ⟨e1, e2⟩
    · obtain rfl : b = 90000 := by omega
      obtain rfl : c = 90000 := by omega
      refine ⟨e1, ?_⟩; rw [e2]; decide
  · by_cases hb : b = 0
    · subst hb; decide
    · obtain ⟨c, ⟨c0, c1⟩, h⟩ := quad (nrm (-b))
      rw [nrm_nrm, show nrm (-b) = 360000 - b by unfold nrm; omega] at h
      rw [show nrm (-b) = 360000 - b by unfold nrm; omega]
      rcases h with ⟨e, e1, e2⟩ | ⟨e, e1, e2⟩ | ⟨e, e1, e2⟩ | ⟨_, e, e1, e2⟩
      · omega
      · omega
      · obtain rfl : b = 90000 := by omega
        obtain rfl : c = 90000 := by omega
        refine ⟨e1, ?_⟩; rw [e2]; decide
      · obtain rfl : c = b := by omega
        exact ⟨e1, e2⟩
/-- the angle of a direction: its sine and cosine lie along it -/
theorem arct_cross {y x : Int} (h : ¬ (x = 0 ∧ y = 0)) :
    (-(18 * (iabs x + iabs y)) ≤ x * sine (arct y x) - y * cosi (arct y x) ∧ x * sine (arct y x) - y * cosi (arct y x) ≤ 18 * (iabs x + iabs y)) ∧
    707107 * iabs x ≤ x * cosi (arct y x) + y * sine (arct y x) ∧ 707107 * iabs y ≤ x * cosi (arct y x) + y * sine (arct y x) := by
  have k := arcB_cross h
  have b := arcB_bd y x
  obtain ⟨q2, q3, q4⟩ := quad2 b.1 b.2
  have q1 := sine_q b.1 b.2
  unfold arct
  generalize hB : arcB y x = B at *
  clear hB
  by_cases hx : 0 ≤ x
  · rw [iabs_pos hx] at *
    by_cases hy : 0 ≤ y
    · rw [if_pos ⟨hx, hy⟩, q1.1, q1.2]
      rw [iabs_pos hy] at *
      exact k
    · rw [if_neg (fun e => hy e.2), if_neg hy, if_neg (by omega), q4.1, q4.2]
      rw [iabs_neg (by omega)] at *
      simp only [Int.mul_neg]
      simp only [Int.neg_mul] at k
      omega
  · rw [iabs_neg (by omega)] at *
    by_cases hy : 0 ≤ y
    · rw [if_neg (fun e => hx e.1), if_pos hy, q2.1, q2.2]
      rw [iabs_pos hy] at *
      simp only [Int.mul_neg]
      simp only [Int.neg_mul] at k
      omega
    · rw [if_neg (fun e => hx e.1), if_neg hy, if_pos (by omega), q3.1, q3.2]
      rw [iabs_neg (by omega)] at *
      simp only [Int.mul_neg]
      simp only [Int.neg_mul] at k
      omega
theorem sq_mono {a b : Int} (h0 : 0 ≤ a) (h : a ≤ b) : a * a ≤ b * b := Int.mul_le_mul h h h0 (by omega)
theorem sq_lt {a b : Int} (ha : 0 ≤ b) (h : a * a ≤ b * b) : a ≤ b := by
  refine Int.le_of_not_gt (fun q => ?_)
  have : b * b < a * a := by
    have h1 : b * b ≤ b * a := Int.mul_le_mul_of_nonneg_left (by omega) ha
    have h2 : b * a < a * a := Int.mul_lt_mul_of_pos_right q (by omega)
    omega
  omega
theorem sq_lt' {a b : Int} (ha : 0 ≤ b) (h : a * a < b * b) : a < b := by
  refine Int.lt_of_not_ge (fun q => ?_)
  have := sq_mono ha q
  omega
/-- the sum of two numbers by the sum of their squares -/
theorem sum_of_sq {a b m : Int} (h : 2 * (a * a + b * b) ≤ m * m) (hm : 0 ≤ m) : a + b ≤ m := by
  refine sq_lt hm ?_
  have := sq_nn (a - b)
  have e : (a - b) * (a - b) = a * a - 2 * (a * b) + b * b := by grind
  have e2 : (a + b) * (a + b) = a * a + 2 * (a * b) + b * b := by grind
  omega
/-- the length of a direction's level part, along its angle -/
theorem flat_core {x y h S C X Y : Int} (h0 : 0 ≤ h) (r1 : h * h ≤ x * x + y * y) (r2 : x * x + y * y < (h + 1) * (h + 1)) (n1 : 999920000000 ≤ S * S + C * C) (n2 : S * S + C * C ≤ 1000004000000)
    (hX : 0 ≤ X ∧ -X ≤ x ∧ x ≤ X) (hY : 0 ≤ Y ∧ -Y ≤ y ∧ y ≤ Y) (xX : x * x = X * X) (yY : y * y = Y * Y) (bS : -1000000 ≤ S ∧ S ≤ 1000000) (bC : -1000000 ≤ C ∧ C ≤ 1000000)
    (k1 : -(18 * (X + Y)) ≤ x * S - y * C) (k2 : x * S - y * C ≤ 18 * (X + Y)) (g0 : 0 ≤ x * C + y * S) :
    999959 * h ≤ x * C + y * S ∧ 2000000 * (x * C + y * S) ≤ (h + 1) * (S * S + C * C + 1000000000000) ∧
    (-(45000000 * X + 1000002000000 + 18000000 * (X + Y)) ≤ 999959 * (h * C - 1000000 * x) ∧ 999959 * (h * C - 1000000 * x) ≤ 45000000 * X + 1000002000000 + 18000000 * (X + Y)) ∧
    (-(45000000 * Y + 1000002000000 + 18000000 * (X + Y)) ≤ 999959 * (h * S - 1000000 * y) ∧ 999959 * (h * S - 1000000 * y) ≤ 45000000 * Y + 1000002000000 + 18000000 * (X + Y)) := by
  have Xh : X ≤ h := by
    have : X < h + 1 := sq_lt' (by omega) (by have := sq_nn y; omega)
    omega
  have Yh : Y ≤ h := by
    have : Y < h + 1 := sq_lt' (by omega) (by have := sq_nn x; omega)
    omega
  have id1 : (x * C + y * S) * (x * C + y * S) + (x * S - y * C) * (x * S - y * C) = (x * x + y * y) * (S * S + C * C) := by grind
  have id2 : (S * S + C * C) * x = (x * C + y * S) * C + (x * S - y * C) * S := by grind
  have id3 : (S * S + C * C) * y = (x * C + y * S) * S - (x * S - y * C) * C := by grind
  generalize hg : x * C + y * S = g at *
  generalize hk : x * S - y * C = k at *
  generalize hN : S * S + C * C = N at *
  clear hg hk hN
  have kk : k * k ≤ 648 * (x * x + y * y) := by
    have a1 : 0 ≤ (18 * (X + Y) - k) * (18 * (X + Y) + k) := Int.mul_nonneg (by omega) (by omega)
    have e1 : (18 * (X + Y) - k) * (18 * (X + Y) + k) = 324 * ((X + Y) * (X + Y)) - k * k := by grind
    have a2 := sq_nn (X - Y)
    have e2 : (X - Y) * (X - Y) + (X + Y) * (X + Y) = 2 * (X * X) + 2 * (Y * Y) := by grind
    omega
  have g1 : 999959 * h ≤ g := by
    refine sq_lt g0 ?_
    have e1 : 999959 * h * (999959 * h) = 999918001681 * (h * h) := by grind
    have a1 : (x * x + y * y) * 999920000000 ≤ (x * x + y * y) * N := Int.mul_le_mul_of_nonneg_left n1 (by have := sq_nn x; have := sq_nn y; omega)
    have := sq_nn X
    have := sq_nn Y
    omega
  have g2 : 2000000 * g ≤ (h + 1) * (N + 1000000000000) := by
    refine sq_lt (Int.mul_nonneg (by omega) (by omega)) ?_
    have a1 : (x * x + y * y) * N ≤ (h + 1) * (h + 1) * N := Int.mul_le_mul_of_nonneg_right (by omega) (by omega)
    have a2 : 0 ≤ (h + 1) * (h + 1) * ((N - 1000000000000) * (N - 1000000000000)) := Int.mul_nonneg (sq_nn _) (sq_nn _)
    have e1 : (h + 1) * (N + 1000000000000) * ((h + 1) * (N + 1000000000000)) = (h + 1) * (h + 1) * ((N - 1000000000000) * (N - 1000000000000)) + 4000000000000 * ((h + 1) * (h + 1) * N) := by grind
    have e2 : 2000000 * g * (2000000 * g) = 4000000000000 * (g * g) := by grind
    have := sq_nn k
    omega
  refine ⟨g1, g2, ?_⟩
  by_cases hz : h = 0
  · subst hz
    obtain rfl : X = 0 := by omega
    obtain rfl : Y = 0 := by omega
    obtain rfl : x = 0 := by omega
    obtain rfl : y = 0 := by omega
    omega
  obtain ⟨q, hq⟩ : ∃ q, q = h * N - 1000000 * g := ⟨_, rfl⟩
  have hN1 : h * N ≤ h * 1000004000000 := Int.mul_le_mul_of_nonneg_left n2 h0
  have hN2 : h * 999920000000 ≤ h * N := Int.mul_le_mul_of_nonneg_left n1 h0
  have q1 : q ≤ 45000000 * h := by omega
  have q2 : -(40000000 * h + 1000002000000) ≤ q := by
    have e : (h + 1) * (N + 1000000000000) = h * N + 1000000000000 * h + N + 1000000000000 := by grind
    omega
  -- one component
  have one : ∀ (u U c e : Int), 0 ≤ U → -U ≤ u → u ≤ U → U ≤ h → -1000000 ≤ c → c ≤ 1000000 → g * e = u * q - h * (k * c) →
      -(45000000 * U + 1000002000000 + 18000000 * (X + Y)) ≤ 999959 * e ∧ 999959 * e ≤ 45000000 * U + 1000002000000 + 18000000 * (X + Y) := by
    intro u U c e hU u1 u2 Uh c1 c2 he
    have b1 := mul_bd2 (a := u) (b := q) (m := U) (n := 45000000 * h + 1000002000000) (by omega) (by omega) (by omega) (by omega) hU
    have b2 := mul_bd2 (a := k) (b := c) (m := 18 * (X + Y)) (n := 1000000) (by omega) (by omega) c1 c2 (by omega)
    have b3 : h * (k * c) ≤ h * (18 * (X + Y) * 1000000) := Int.mul_le_mul_of_nonneg_left b2.2 h0
    have b4 : h * (-(18 * (X + Y) * 1000000)) ≤ h * (k * c) := Int.mul_le_mul_of_nonneg_left b2.1 h0
    have b5 : U * 1000002000000 ≤ h * 1000002000000 := Int.mul_le_mul_of_nonneg_right Uh (by omega)
    obtain ⟨T, hT⟩ : ∃ T, T = 45000000 * U + 1000002000000 + 18000000 * (X + Y) := ⟨_, rfl⟩
    have e5 : U * (45000000 * h + 1000002000000) = 45000000 * (h * U) + U * 1000002000000 := by grind
    have e6 : h * T = 45000000 * (h * U) + 1000002000000 * h + h * (18 * (X + Y) * 1000000) := by rw [hT]; grind
    have e7 : h * (-(18 * (X + Y) * 1000000)) = -(h * (18 * (X + Y) * 1000000)) := by grind
    have t1 : g * e ≤ h * T := by omega
    have t2 : -(h * T) ≤ g * e := by omega
    rw [← hT]
    have T0 : 0 ≤ T := by omega
    have hp : 0 < h := by omega
    constructor
    · refine Int.le_of_not_gt (fun w => ?_)
      have s1 : g * e ≤ 999959 * h * e := by
        have := Int.mul_le_mul_of_nonneg_right (c := -e) g1 (by omega)
        have e8 : 999959 * h * -e = -(999959 * h * e) := by grind
        have e9 : g * -e = -(g * e) := by grind
        omega
      have s2 : h * (999959 * e) < h * -T := Int.mul_lt_mul_of_pos_left w hp
      have e8 : h * (999959 * e) = 999959 * h * e := by grind
      have e9 : h * -T = -(h * T) := by grind
      omega
    · refine Int.le_of_not_gt (fun w => ?_)
      have s1 : 999959 * h * e ≤ g * e := Int.mul_le_mul_of_nonneg_right g1 (by omega)
      have s2 : h * T < h * (999959 * e) := Int.mul_lt_mul_of_pos_left w hp
      have e8 : h * (999959 * e) = 999959 * h * e := by grind
      omega
  refine ⟨one x X S _ hX.1 hX.2.1 hX.2.2 Xh bS.1 bS.2 ?_, one y Y (-C) _ hY.1 hY.2.1 hY.2.2 Yh (by omega) (by omega) ?_⟩
  · rw [hq]
    have : h * ((N) * x) = h * (g * C + k * S) := by rw [id2]
    grind
  · rw [hq]
    have : h * ((N) * y) = h * (g * S - k * C) := by rw [id3]
    grind
theorem iabs_sq (x : Int) : iabs x * iabs x = x * x := by
  unfold iabs
  split
  · exact Int.neg_mul_neg x x
  · rfl
theorem iabs_in {x m : Int} (h : iabs x ≤ m) : -m ≤ x ∧ x ≤ m := by have := iabs_nn x; omega
theorem iabs_of {x m : Int} (h1 : -m ≤ x) (h2 : x ≤ m) : iabs x ≤ m := by unfold iabs; split <;> omega
/-- two components by the length -/
theorem pair_bd {a b Q : Int} (h : a * a + b * b ≤ Q * Q) (hQ : 0 ≤ Q) : 100000 * (iabs a + iabs b) ≤ 141422 * Q := by
  have h1 := iabs_sq a
  have h2 := iabs_sq b
  have n1 := (iabs_nn a).1
  have n2 := (iabs_nn b).1
  generalize iabs a = A at *
  generalize iabs b = B at *
  refine sq_lt (by omega) ?_
  have := sq_nn (A - B)
  have e : (A - B) * (A - B) = A * A - 2 * (A * B) + B * B := by grind
  have e2 : 100000 * (A + B) * (100000 * (A + B)) = 10000000000 * (A * A + 2 * (A * B) + B * B) := by grind
  have e3 : 141422 * Q * (141422 * Q) = 20000182084 * (Q * Q) := by grind
  have := sq_nn Q
  omega
/-- sine and cosine of the angles of a vector -/
theorem angB_sine (v : VectorD) : sine (angB v) = sine (arct v.f2 (iroot (v.f0 * v.f0 + v.f1 * v.f1))) ∧ cosi (angB v) = cosi (arct v.f2 (iroot (v.f0 * v.f0 + v.f1 * v.f1))) := by
  unfold angB
  split
  · have e : ∀ a : Int, nrm (a - 360000) = nrm a := fun a => by unfold nrm; omega
    exact ⟨by rw [← sine_nrm, e, sine_nrm], by rw [← cosi_nrm, e, cosi_nrm]⟩
  · exact ⟨rfl, rfl⟩
theorem arct_cross0 (y x : Int) :
    (-(18 * (iabs x + iabs y)) ≤ x * sine (arct y x) - y * cosi (arct y x) ∧ x * sine (arct y x) - y * cosi (arct y x) ≤ 18 * (iabs x + iabs y)) ∧
    0 ≤ x * cosi (arct y x) + y * sine (arct y x) := by
  by_cases h : x = 0 ∧ y = 0
  · obtain ⟨rfl, rfl⟩ := h
    simp [iabs]
  · obtain ⟨h1, h2, h3⟩ := arct_cross h
    have := (iabs_nn x).1
    exact ⟨h1, by omega⟩
theorem mul_by {N e M : Int} (n1 : 0 ≤ N) (n2 : N ≤ 1000004000000) (e1 : -M ≤ 1000004 * e) (e2 : 1000004 * e ≤ M) (M0 : 0 ≤ M) : -(1000000 * M) ≤ N * e ∧ N * e ≤ 1000000 * M := by
  rcases Int.le_total 0 e with h | h
  · have a := Int.mul_nonneg n1 h
    have b : N * e ≤ 1000004000000 * e := Int.mul_le_mul_of_nonneg_right n2 h
    omega
  · have a := Int.mul_nonneg n1 (show 0 ≤ -e by omega)
    have b : N * -e ≤ 1000004000000 * -e := Int.mul_le_mul_of_nonneg_right n2 (by omega)
    have c : N * -e = -(N * e) := by grind
    omega
theorem ang_comp {h z g k N T D Q u U V c e : Int} (nB : 999920000000 ≤ N ∧ N ≤ 1000004000000) (id2 : N * h = g * D + k * T) (g0 : 0 ≤ g) (gq : g ≤ 1000003 * Q) (k1 : -(18 * (h + iabs z)) ≤ k) (k2 : k ≤ 18 * (h + iabs z))
    (sB : -1000000 ≤ T ∧ T ≤ 1000000) (hc : -1000000 ≤ c ∧ c ≤ 1000000) (he : h * c - 1000000 * u = e) (hU : U ≤ Q) (e1 : -(45000000 * U + 1000002000000 + 18000000 * V) ≤ 999959 * e) (e2 : 999959 * e ≤ 45000000 * U + 1000002000000 + 18000000 * V)
    (pV : 100000 * V ≤ 141422 * Q) (phz : 100000 * (h + iabs z) ≤ 141422 * Q) (Q0 : 0 ≤ Q) : iabs (g * divr (D * c) 1000000 - N * u) ≤ 96500000 * Q + 1000100000000 := by
  have nd := divr_near (a := D * c) (b := 1000000) (by decide)
  generalize divr (D * c) 1000000 = m at *
  obtain ⟨q1, q2⟩ := mul_by (N := N) (e := e) (M := 70500000 * Q + 1000100000000) (by omega) nB.2 (by omega) (by omega) (by omega)
  have tc := mul_bd2 (a := T) (b := c) (m := 1000000) (n := 1000000) sB.1 sB.2 hc.1 hc.2 (by omega)
  have ktc := mul_bd2 (a := k) (b := T * c) (m := 18 * (h + iabs z)) (n := 1000000000000) k1 k2 (by omega) (by omega) (by omega)
  have a1 : g * (2 * (D * c) - 1000000) ≤ g * (2 * 1000000 * m) := Int.mul_le_mul_of_nonneg_left nd.1 g0
  have a2 : g * (2 * 1000000 * m) ≤ g * (2 * (D * c) + 1000000) := Int.mul_le_mul_of_nonneg_left nd.2 g0
  have i1 : g * (D * c) = N * e + 1000000 * (N * u) - k * (T * c) := by
    have : N * h * c = (g * D + k * T) * c := by rw [id2]
    rw [← he]
    grind
  have i2 : g * (2 * (D * c) - 1000000) = 2 * (g * (D * c)) - 1000000 * g := by grind
  have i3 : g * (2 * (D * c) + 1000000) = 2 * (g * (D * c)) + 1000000 * g := by grind
  have i4 : g * (2 * 1000000 * m) = 2000000 * (g * m) := by grind
  exact iabs_of (by omega) (by omega)
/-- a vector and the direction of its angles: g times the direction is N times the vector, nearly -/
theorem ang_core {v : VectorD} {Q : Int} (hQ : v.f0 * v.f0 + v.f1 * v.f1 + v.f2 * v.f2 ≤ Q * Q) (Q0 : 0 ≤ Q) :
    ∃ g N : Int, (999920000000 ≤ N ∧ N ≤ 1000004000000) ∧ 0 ≤ g ∧ g * g ≤ (v.f0 * v.f0 + v.f1 * v.f1 + v.f2 * v.f2) * N ∧ (v.f0 * v.f0 + v.f1 * v.f1 + v.f2 * v.f2 - 2 * Q) * 999919999352 ≤ g * g ∧ g ≤ 1000003 * Q ∧
      iabs (g * (dirV (angA v) (angB v)).f0 - N * v.f0) ≤ 96500000 * Q + 1000100000000 ∧ iabs (g * (dirV (angA v) (angB v)).f1 - N * v.f1) ≤ 96500000 * Q + 1000100000000 ∧ iabs (g * (dirV (angA v) (angB v)).f2 - N * v.f2) ≤ 25500000 * Q := by
  obtain ⟨x, y, z⟩ := v
  obtain ⟨eS, eC⟩ := angB_sine ⟨x, y, z⟩
  simp only at *
  unfold dirV
  rw [eS, eC]
  have eA : angA ⟨x, y, z⟩ = arct y x := rfl
  rw [eA]
  simp only
  have xx := sq_nn x
  have yy := sq_nn y
  have zz := sq_nn z
  obtain ⟨r1, r2⟩ := iroot_spec (n := x * x + y * y) (by omega)
  have h0 := iroot_nonneg (x * x + y * y)
  generalize iroot (x * x + y * y) = h at *
  have kA := arct_cross0 y x
  have nA := norm_a (arct y x)
  have sA := sine_bd (arct y x)
  have cA := cosi_bd (arct y x)
  generalize sine (arct y x) = S at *
  generalize cosi (arct y x) = C at *
  have kB := arct_cross0 z h
  have nB := norm_a (arct z h)
  have sB := sine_bd (arct z h)
  have cB := cosi_bd (arct z h)
  generalize sine (arct z h) = T at *
  generalize cosi (arct z h) = D at *
  have ix := iabs_nn x
  have iy := iabs_nn y
  have iz := iabs_nn z
  have F := flat_core (x := x) (y := y) (h := h) (S := S) (C := C) (X := iabs x) (Y := iabs y) h0 r1 r2 nA.1 nA.2 ⟨ix.1, by omega, ix.2.1⟩ ⟨iy.1, by omega, iy.2.1⟩ (iabs_sq x).symm (iabs_sq y).symm sA cA kA.1.1 kA.1.2 kA.2
  obtain ⟨_, _, ⟨f1, f2⟩, f3, f4⟩ := F
  have pxy := pair_bd (a := x) (b := y) (Q := Q) (by omega) Q0
  have phz := pair_bd (a := h) (b := z) (Q := Q) (by omega) Q0
  rw [iabs_pos h0] at phz kB
  have Xq : iabs x ≤ Q := sq_lt Q0 (by rw [iabs_sq]; omega)
  have Yq : iabs y ≤ Q := sq_lt Q0 (by rw [iabs_sq]; omega)
  have hq : h ≤ Q := sq_lt Q0 (by omega)
  clear eS eC eA
  have id1 : (h * D + z * T) * (h * D + z * T) + (h * T - z * D) * (h * T - z * D) = (h * h + z * z) * (T * T + D * D) := by grind
  have id2 : (T * T + D * D) * h = (h * D + z * T) * D + (h * T - z * D) * T := by grind
  have id3 : (T * T + D * D) * z = (h * D + z * T) * T - (h * T - z * D) * D := by grind
  obtain ⟨⟨k1, k2⟩, g0⟩ := kB
  generalize hg : h * D + z * T = g at *
  generalize hk : h * T - z * D = k at *
  generalize hN : T * T + D * D = N at *
  clear hg hk hN
  have kk : k * k ≤ 648 * (h * h + z * z) := by
    have a1 : 0 ≤ (18 * (h + iabs z) - k) * (18 * (h + iabs z) + k) := Int.mul_nonneg (by omega) (by omega)
    have e1 : (18 * (h + iabs z) - k) * (18 * (h + iabs z) + k) = 324 * ((h + iabs z) * (h + iabs z)) - k * k := by grind
    have a2 := sq_nn (h - iabs z)
    have e2 : (h - iabs z) * (h - iabs z) + (h + iabs z) * (h + iabs z) = 2 * (h * h) + 2 * (iabs z * iabs z) := by grind
    rw [iabs_sq] at e2
    omega
  have hz0 : 0 ≤ h * h + z * z := by have := sq_nn h; omega
  have b1 : (h * h + z * z) * N ≤ (x * x + y * y + z * z) * N := Int.mul_le_mul_of_nonneg_right (by omega) (by omega)
  have b2 : (h * h + z * z) * 999920000000 ≤ (h * h + z * z) * N := Int.mul_le_mul_of_nonneg_left nB.1 hz0
  have b3 : (x * x + y * y + z * z) * N ≤ (Q * Q) * 1000004000000 := Int.mul_le_mul hQ nB.2 (by omega) (sq_nn Q)
  have kn := sq_nn k
  have gq : g ≤ 1000003 * Q := by
    refine sq_lt (by omega) ?_
    have e : 1000003 * Q * (1000003 * Q) = 1000006000009 * (Q * Q) := by grind
    have := sq_nn Q
    omega
  have eh : (h + 1) * (h + 1) = h * h + 2 * h + 1 := by grind
  refine ⟨g, N, nB, g0, by omega, ?_, gq, ?_, ?_, ?_⟩
  · have : (x * x + y * y + z * z - 2 * Q) ≤ h * h + z * z := by omega
    omega
  · exact ang_comp (h := h) (e := h * C - 1000000 * x) (U := iabs x) (V := iabs x + iabs y) nB id2 g0 gq k1 k2 sB cA rfl Xq f1 f2 pxy phz Q0
  · exact ang_comp (h := h) (e := h * S - 1000000 * y) (U := iabs y) (V := iabs x + iabs y) nB id2 g0 gq k1 k2 sB sA rfl Yq f3 f4 pxy phz Q0
  · have e : g * T - N * z = k * D := by rw [id3]; grind
    rw [e]
    have m := mul_bd2 (a := k) (b := D) (m := 18 * (h + iabs z)) (n := 1000000) k1 k2 cB.1 cB.2 (by omega)
    exact iabs_of (by omega) (by omega)
theorem arcE_le {u v m0 : Int} (h0 : 0 ≤ u) (hv : 0 < v) (huv : u ≤ v) (m1 : 0 ≤ m0) (m2 : m0 ≤ 45000) (h : u * cosi m0 ≤ sine m0 * v) : arcE u v ≤ m0 := by
  refine Int.not_lt.1 (fun q => ?_)
  obtain ⟨b0, b1⟩ := arcE_bd u v
  have top : arcP u v (0 + (45000 : Nat)) = true := by
    unfold arcP
    rw [decide_eq_true_iff]
    have e := sine_q (m := 0 + (45000 : Nat)) (by omega) (by omega)
    rw [e.1, e.2, show (90000 - (0 + ((45000 : Nat) : Int))) = 45000 by omega, show (0 + ((45000 : Nat) : Int)) = 45000 by omega, sinQ45]
    omega
  obtain ⟨_, hq⟩ := bsr_spec (arcP u v) 45000 0 top
  have e : bsr (arcP u v) 0 45000 = arcE u v := rfl
  rw [e] at hq
  generalize arcE u v = m at *
  rcases hq with hq | hq
  · omega
  · have q1 := sine_q (m := m - 1) (by omega) (by omega)
    have q0 := sine_q (m := m0) m1 (by omega)
    unfold arcP at hq
    rw [decide_eq_false_iff_not, q1.1, q1.2] at hq
    rw [q0.1, q0.2] at h
    have s1 := sin_le (a := m0) (b := m - 1) m1 (by omega) (by omega)
    have s2 := sin_le (a := 90000 - (m - 1)) (b := 90000 - m0) (by omega) (by omega) (by omega)
    have p1 : sinQ m0 * v ≤ sinQ (m - 1) * v := Int.mul_le_mul_of_nonneg_right s1 (by omega)
    have p2 : sinQ (90000 - (m - 1)) * u ≤ sinQ (90000 - m0) * u := Int.mul_le_mul_of_nonneg_right s2 h0
    have p3 := Int.mul_comm u (sinQ (90000 - m0))
    omega
theorem arct_le {c d m0 : Int} (h0 : 0 ≤ c) (hd : 0 < d) (hcd : c ≤ d) (m1 : 0 ≤ m0) (m2 : m0 ≤ 45000) (h : c * cosi m0 ≤ sine m0 * d) : 0 ≤ arct c d ∧ arct c d ≤ m0 := by
  refine ⟨(arct_bd c d).1, ?_⟩
  unfold arct
  rw [if_pos ⟨by omega, h0⟩]
  unfold arcB
  rw [iabs_pos h0, iabs_pos (by omega : 0 ≤ d), if_neg (by omega), Int.min_eq_right (by omega), Int.max_eq_left (by omega)]
  exact arcE_le h0 hd hcd m1 m2 h
/-- raw products of two vectors -/
def crx (a b : VectorD) : Int := a.f1 * b.f2 - a.f2 * b.f1
def cry (a b : VectorD) : Int := a.f2 * b.f0 - a.f0 * b.f2
def crz (a b : VectorD) : Int := a.f0 * b.f1 - a.f1 * b.f0
def rdot (a b : VectorD) : Int := a.f0 * b.f0 + a.f1 * b.f1 + a.f2 * b.f2
theorem sep_small {a b : VectorD} {K L d0 m0 : Int} (hx : iabs (crx a b) ≤ K * 1000000) (hy : iabs (cry a b) ≤ K * 1000000) (hz : iabs (crz a b) ≤ K * 1000000) (hL : 3 * (K * K) < (L + 1) * (L + 1)) (L0 : 0 ≤ L) (hd : d0 * 1000000 ≤ rdot a b) (d1 : 0 < d0) (hLd : L ≤ d0)
    (m1 : 0 ≤ m0) (m2 : m0 ≤ 45000) (hc : 0 ≤ cosi m0) (hs : 0 ≤ sine m0) (h : L * cosi m0 ≤ sine m0 * d0) : sepV a b ≤ m0 := by
  by_cases hzz : isZ a ∨ isZ b
  · rw [sepV_z hzz]; exact m1
  rw [sepV_nz hzz]
  obtain ⟨x1, x2⟩ := iabs_in hx
  obtain ⟨y1, y2⟩ := iabs_in hy
  obtain ⟨z1, z2⟩ := iabs_in hz
  have cx := divr_le (a := crx a b) (b := 1000000) (m := K) (by decide) (by omega) x2
  have cy := divr_le (a := cry a b) (b := 1000000) (m := K) (by decide) (by omega) y2
  have cz := divr_le (a := crz a b) (b := 1000000) (m := K) (by decide) (by omega) z2
  have K0 : 0 ≤ K := by omega
  have sqK : ∀ t : Int, -K ≤ t ∧ t ≤ K → t * t ≤ K * K := fun t ht => by
    have := mul_bd2 (a := t) (b := t) (m := K) (n := K) ht.1 ht.2 ht.1 ht.2 K0
    exact this.2
  have l1 : lenV (crossV a b) ≤ L := by
    unfold lenV
    refine iroot_le L0 ?_
    have e0 : (crossV a b).f0 = divr (crx a b) 1000000 := rfl
    have e1 : (crossV a b).f1 = divr (cry a b) 1000000 := rfl
    have e2 : (crossV a b).f2 = divr (crz a b) 1000000 := rfl
    rw [e0, e1, e2]
    have := sqK _ cx
    have := sqK _ cy
    have := sqK _ cz
    omega
  have l0 : 0 ≤ lenV (crossV a b) := iroot_nonneg _
  have d2 : d0 ≤ dotV a b := by
    have := divr_mono (a := d0 * 1000000) (a' := rdot a b) (b := 1000000) (by decide) hd
    rw [divr_mul (by decide)] at this
    exact this
  refine (arct_le l0 (by omega) (by omega) m1 m2 ?_).2
  have p1 : lenV (crossV a b) * cosi m0 ≤ L * cosi m0 := Int.mul_le_mul_of_nonneg_right l1 hc
  have p2 : sine m0 * d0 ≤ sine m0 * dotV a b := Int.mul_le_mul_of_nonneg_left d2 hs
  omega
theorem tab100 : sine 100 = 1745 ∧ cosi 100 = 999985 ∧ sine 40 = 698 ∧ cosi 40 = 999994 := by decide
/-- turned about: east for north -/
def swp (v : VectorD) : VectorD := ⟨v.f1, v.f0, v.f2⟩
theorem dir_swp (a b : Int) : dirV (nrm (90000 - a)) b = swp (dirV a b) := by
  unfold dirV swp
  rw [cosi_comp, sine_comp]
theorem dir_swp2 (a b : Int) : dirV a b = swp (dirV (nrm (90000 - a)) b) := by
  rw [dir_swp]; rfl
theorem sep_swp {a b : VectorD} {K : Int} (hx : iabs (crx a b) ≤ K) (hy : iabs (cry a b) ≤ K) (hz : iabs (crz a b) ≤ K) : iabs (crx (swp a) (swp b)) ≤ K ∧ iabs (cry (swp a) (swp b)) ≤ K ∧ iabs (crz (swp a) (swp b)) ≤ K ∧ rdot (swp a) (swp b) = rdot a b := by
  have e1 : crx (swp a) (swp b) = -cry a b := by unfold crx cry swp; simp only; omega
  have e2 : cry (swp a) (swp b) = -crx a b := by unfold crx cry swp; simp only; omega
  have e3 : crz (swp a) (swp b) = -crz a b := by unfold crz swp; simp only; omega
  have n : ∀ t : Int, iabs (-t) = iabs t := fun t => by unfold iabs; split <;> split <;> omega
  rw [e1, e2, e3, n, n, n]
  refine ⟨hy, hx, hz, ?_⟩
  unfold rdot swp
  simp only
  omega
/-- rounding of a component: its square -/
theorem near_mul {p m : Int} (h : m = divr p 1000000) : iabs (1000000 * m - p) ≤ 500000 := by
  have := divr_near (a := p) (b := 1000000) (by decide)
  rw [← h] at this
  exact iabs_of (by omega) (by omega)
theorem sq_near {x y : Int} {B M : Int} (h : iabs (y - x) ≤ M) (hx : iabs x ≤ B) : iabs (y * y - x * x) ≤ 2 * M * B + M * M := by
  obtain ⟨h1, h2⟩ := iabs_in h
  obtain ⟨b1, b2⟩ := iabs_in hx
  have M0 : 0 ≤ M := by omega
  have m1 := mul_bd2 (a := y - x) (b := y - x) (m := M) (n := M) h1 h2 h1 h2 M0
  have m2 := mul_bd2 (a := y - x) (b := x) (m := M) (n := B) h1 h2 b1 b2 M0
  have e : y * y - x * x = (y - x) * (y - x) + 2 * ((y - x) * x) := by grind
  have e2 : 2 * M * B = 2 * (M * B) := by grind
  rw [e, e2]
  exact iabs_of (by omega) (by omega)
/-- the square of a direction -/
theorem dir_norm (lon lat : Int) : 999838000000 ≤ rdot (dirV lon lat) (dirV lon lat) ∧ rdot (dirV lon lat) (dirV lon lat) ≤ 1000011000000 := by
  have nL := norm_a lon
  have nB := norm_a lat
  have sL := sine_bd lon
  have cL := cosi_bd lon
  have cB := cosi_bd lat
  unfold rdot dirV
  simp only
  generalize sine lat = T at *
  generalize cosi lat = C at *
  generalize sine lon = S at *
  generalize cosi lon = D at *
  have pb := unit_mul cB.1 cB.2 cL.1 cL.2
  have qb := unit_mul cB.1 cB.2 sL.1 sL.2
  obtain ⟨x1, x2⟩ := iabs_in (sq_near (x := C * D) (y := 1000000 * divr (C * D) 1000000) (B := 1000000000000) (near_mul rfl) (iabs_of pb.1 pb.2))
  obtain ⟨y1, y2⟩ := iabs_in (sq_near (x := C * S) (y := 1000000 * divr (C * S) 1000000) (B := 1000000000000) (near_mul rfl) (iabs_of qb.1 qb.2))
  generalize divr (C * D) 1000000 = u at *
  generalize divr (C * S) 1000000 = v at *
  have e1 : 1000000 * u * (1000000 * u) = 1000000000000 * (u * u) := by grind
  have e2 : 1000000 * v * (1000000 * v) = 1000000000000 * (v * v) := by grind
  have e3 : C * D * (C * D) + C * S * (C * S) = C * C * (S * S + D * D) := by grind
  have cc := sq_nn C
  have k1 : C * C * 999920000000 ≤ C * C * (S * S + D * D) := Int.mul_le_mul_of_nonneg_left nL.1 cc
  have k2 : C * C * (S * S + D * D) ≤ C * C * 1000004000000 := Int.mul_le_mul_of_nonneg_left nL.2 cc
  have tt := sq_nn T
  omega
/-- a point of a dome of radius r -/
theorem pt_near {r : Int} (az alt : Int) : iabs (1000000 * (ptV r az alt).f0 - r * (dirV (nrm (90000 - az)) alt).f0) ≤ 500000 ∧ iabs (1000000 * (ptV r az alt).f1 - r * (dirV (nrm (90000 - az)) alt).f1) ≤ 500000 ∧ iabs (1000000 * (ptV r az alt).f2 - r * (dirV (nrm (90000 - az)) alt).f2) ≤ 500000 :=
  ⟨near_mul rfl, near_mul rfl, near_mul rfl⟩
theorem pt_norm {r : Int} (az alt : Int) (r0 : 3000 ≤ r) (r1 : r ≤ 12000) : (r - 3) * (r - 3) ≤ rdot (ptV r az alt) (ptV r az alt) ∧ rdot (ptV r az alt) (ptV r az alt) ≤ (r + 2) * (r + 2) ∧ 998170 * (r * r) ≤ 1000000 * (rdot (ptV r az alt) (ptV r az alt) - 2 * (r + 2)) := by
  obtain ⟨n0, n1, n2⟩ := pt_near (r := r) az alt
  have nn := dir_norm (nrm (90000 - az)) alt
  obtain ⟨b0, b1, b2⟩ := dirV_bd (nrm (90000 - az)) alt
  generalize dirV (nrm (90000 - az)) alt = a at *
  generalize ptV r az alt = P at *
  unfold rdot at *
  have B : ∀ t : Int, -1000000 ≤ t ∧ t ≤ 1000000 → iabs (r * t) ≤ 1000000 * r := fun t ht => by
    have := mul_bd2 (a := t) (b := r) (m := 1000000) (n := r) ht.1 ht.2 (by omega) (Int.le_refl r) (by omega)
    rw [Int.mul_comm r t]
    exact iabs_of this.1 this.2
  obtain ⟨x1, x2⟩ := iabs_in (sq_near n0 (B _ b0))
  obtain ⟨y1, y2⟩ := iabs_in (sq_near n1 (B _ b1))
  obtain ⟨z1, z2⟩ := iabs_in (sq_near n2 (B _ b2))
  have e0 : 1000000 * P.f0 * (1000000 * P.f0) = 1000000000000 * (P.f0 * P.f0) := by grind
  have e1 : 1000000 * P.f1 * (1000000 * P.f1) = 1000000000000 * (P.f1 * P.f1) := by grind
  have e2 : 1000000 * P.f2 * (1000000 * P.f2) = 1000000000000 * (P.f2 * P.f2) := by grind
  have es : r * a.f0 * (r * a.f0) + r * a.f1 * (r * a.f1) + r * a.f2 * (r * a.f2) = r * r * (a.f0 * a.f0 + a.f1 * a.f1 + a.f2 * a.f2) := by grind
  have rr := sq_nn r
  have k1 : r * r * 999838000000 ≤ r * r * (a.f0 * a.f0 + a.f1 * a.f1 + a.f2 * a.f2) := Int.mul_le_mul_of_nonneg_left nn.1 rr
  have k2 : r * r * (a.f0 * a.f0 + a.f1 * a.f1 + a.f2 * a.f2) ≤ r * r * 1000011000000 := Int.mul_le_mul_of_nonneg_left nn.2 rr
  have r2 : r * r ≤ r * 12000 := Int.mul_le_mul_of_nonneg_left r1 (by omega)
  have r3 : r * 3000 ≤ r * r := Int.mul_le_mul_of_nonneg_left r0 (by omega)
  have q1 : (r - 3) * (r - 3) = r * r - 6 * r + 9 := by grind
  have q2 : (r + 2) * (r + 2) = r * r + 4 * r + 4 := by grind
  refine ⟨by omega, by omega, by omega⟩
theorem cross_two {p q a b P Q E : Int} (hp : iabs p ≤ P) (hq : iabs q ≤ Q) (ha : iabs a ≤ E) (hb : iabs b ≤ E) : iabs (p * b - q * a) ≤ (P + Q) * E := by
  obtain ⟨p1, p2⟩ := iabs_in hp
  obtain ⟨q1, q2⟩ := iabs_in hq
  obtain ⟨a1, a2⟩ := iabs_in ha
  obtain ⟨b1, b2⟩ := iabs_in hb
  have P0 : 0 ≤ P := by have := (iabs_nn p).1; omega
  have Q0 : 0 ≤ Q := by have := (iabs_nn q).1; omega
  have m1 := mul_bd2 (a := p) (b := b) (m := P) (n := E) p1 p2 b1 b2 P0
  have m2 := mul_bd2 (a := q) (b := a) (m := Q) (n := E) q1 q2 a1 a2 Q0
  have e := Int.add_mul P Q E
  exact iabs_of (by omega) (by omega)
/-- one component of the cross product of a direction and the direction of what stands there -/
theorem view_comp {r g N Q E a1 a2 P1 P2 D1 D2 : Int} (r0 : 3000 ≤ r) (g0 : 999000 * r ≤ g) (hQ : Q = r + 2)
    (d1 : iabs (1000000 * P1 - r * a1) ≤ 500000) (d2 : iabs (1000000 * P2 - r * a2) ≤ 500000) (e1 : iabs (g * D1 - N * P1) ≤ E) (e2 : iabs (g * D2 - N * P2) ≤ E) (hE : E ≤ 430000000 * r)
    (hP : 100000 * (iabs P1 + iabs P2) ≤ 141422 * Q) (hD : iabs D1 + iabs D2 ≤ 1414300) : iabs (a1 * D2 - a2 * D1) ≤ 845000000 := by
  have c1 := cross_two (p := P1) (q := P2) (a := g * D1 - N * P1) (b := g * D2 - N * P2) (Int.le_refl _) (Int.le_refl _) e1 e2
  have c2 := cross_two (p := D2) (q := D1) (a := 1000000 * P2 - r * a2) (b := 1000000 * P1 - r * a1) (Int.le_refl _) (Int.le_refl _) d2 d1
  have i1 : P1 * (g * D2 - N * P2) - P2 * (g * D1 - N * P1) = g * (P1 * D2 - P2 * D1) := by grind
  have i2 : D2 * (1000000 * P1 - r * a1) - D1 * (1000000 * P2 - r * a2) = 1000000 * (P1 * D2 - P2 * D1) - r * (a1 * D2 - a2 * D1) := by grind
  rw [i1] at c1
  rw [i2] at c2
  obtain ⟨u1, u2⟩ := iabs_in c1
  obtain ⟨v1, v2⟩ := iabs_in c2
  have E0 : 0 ≤ E := by have := (iabs_nn (g * D1 - N * P1)).1; omega
  have s0 : 0 ≤ iabs P1 + iabs P2 := by have := (iabs_nn P1).1; have := (iabs_nn P2).1; omega
  generalize iabs P1 + iabs P2 = S at *
  rw [Int.add_comm (iabs D2) (iabs D1)] at v1 v2
  generalize iabs D1 + iabs D2 = F at *
  generalize P1 * D2 - P2 * D1 = X at *
  generalize a1 * D2 - a2 * D1 = Y at *
  -- bounds linear in r
  have hS : 100000 * S ≤ 141517 * r := by omega
  have hSE : 100000 * (S * E) ≤ 141517 * r * (430000000 * r) := by
    have h1 : 100000 * S * E ≤ 141517 * r * (430000000 * r) := Int.mul_le_mul hS hE E0 (by omega)
    have e : 100000 * S * E = 100000 * (S * E) := by grind
    omega
  have rr : 141517 * r * (430000000 * r) = 60852310000000 * (r * r) := by grind
  -- 1e6 |X| <= 609200000 r
  have hX : ∀ t : Int, g * t ≤ S * E → 1000000 * t ≤ 609200000 * r := fun t ht => by
    refine Int.not_lt.1 (fun q => ?_)
    have tp : 0 < t := by omega
    have b1 : 999000 * r * t ≤ g * t := Int.mul_le_mul_of_nonneg_right g0 (by omega)
    have b2 : r * (609200000 * r) < r * (1000000 * t) := Int.mul_lt_mul_of_pos_left q (by omega)
    have e2 : r * (609200000 * r) = 609200000 * (r * r) := by grind
    have e3 : r * (1000000 * t) = 1000000 * (r * t) := by grind
    have e4 : 999000 * r * t = 999000 * (r * t) := by grind
    have := sq_nn r
    omega
  have X1 := hX X (by omega)
  have X2 := hX (-X) (by have : g * -X = -(g * X) := by grind
                         omega)
  have w1 : -(845000000 * r) ≤ r * Y := by omega
  have w2 : r * Y ≤ 845000000 * r := by omega
  refine iabs_of ?_ ?_
  · refine Int.not_lt.1 (fun q => ?_)
    have := Int.mul_lt_mul_of_pos_left (c := r) q (by omega)
    have e : r * -845000000 = -(845000000 * r) := by grind
    omega
  · refine Int.not_lt.1 (fun q => ?_)
    have := Int.mul_lt_mul_of_pos_left (c := r) q (by omega)
    have e : r * 845000000 = 845000000 * r := by grind
    omega
theorem viewV_zero (r az alt : Int) : viewV r ⟨0, 0, 0⟩ az alt = ptV r az alt := by
  unfold viewV
  simp only [Int.sub_zero]
/-- from the middle everything is seen where it is -/
theorem view_near {r : Int} (az alt : Int) (r0 : 3000 ≤ r) (r1 : r ≤ 12000) : errV r ⟨0, 0, 0⟩ az alt ≤ 100 ∧ 900000 * 1000000 ≤ rdot (dirV az alt) (dirV (viewA r ⟨0, 0, 0⟩ az alt) (viewB r ⟨0, 0, 0⟩ az alt)) := by
  obtain ⟨p1, p2, p3⟩ := pt_norm (r := r) az alt r0 r1
  obtain ⟨n0, n1, n2⟩ := pt_near (r := r) az alt
  unfold errV viewA viewB
  rw [viewV_zero]
  have dn := dir_norm (angA (ptV r az alt)) (angB (ptV r az alt))
  have dn2 := dir_norm (nrm (90000 - az)) alt
  obtain ⟨g, N, hN, g0, gq, gl, gu, e0, e1, e2⟩ := ang_core (v := ptV r az alt) (Q := r + 2) (by unfold rdot at p2; exact p2) (by omega)
  rw [dir_swp2 az alt, dir_swp (angA (ptV r az alt)) (angB (ptV r az alt))]
  generalize dirV (nrm (90000 - az)) alt = a at *
  generalize dirV (angA (ptV r az alt)) (angB (ptV r az alt)) = D at *
  generalize ptV r az alt = P at *
  unfold rdot at p1 p2 p3 dn dn2
  have s0 := sq_nn P.f0
  have s1 := sq_nn P.f1
  have s2 := sq_nn P.f2
  have t0 := sq_nn D.f0
  have t1 := sq_nn D.f1
  have t2 := sq_nn D.f2
  have gr : 999000 * r ≤ g := by
    refine sq_lt g0 ?_
    have e : 999000 * r * (999000 * r) = 998001000000 * (r * r) := by grind
    have := sq_nn r
    omega
  have pp : ∀ u v : Int, u * u + v * v ≤ (r + 2) * (r + 2) → 100000 * (iabs u + iabs v) ≤ 141422 * (r + 2) := fun u v h => pair_bd h (by omega)
  have dd : ∀ u v : Int, u * u + v * v ≤ 1000011000000 → iabs u + iabs v ≤ 1414300 := fun u v h => by
    have := pair_bd (a := u) (b := v) (Q := 1000006) (by omega) (by decide)
    omega
  have hE : 96500000 * (r + 2) + 1000100000000 ≤ 430000000 * r := by omega
  have hE2 : 25500000 * (r + 2) ≤ 430000000 * r := by omega
  have e2' : iabs (g * D.f2 - N * P.f2) ≤ 96500000 * (r + 2) + 1000100000000 := by omega
  have cx := view_comp (a1 := a.f1) (a2 := a.f2) r0 gr rfl n1 n2 e1 e2' hE (pp _ _ (by omega)) (dd _ _ (by omega))
  have cy := view_comp (a1 := a.f2) (a2 := a.f0) r0 gr rfl n2 n0 e2' e0 hE (pp _ _ (by omega)) (dd _ _ (by omega))
  have cz := view_comp (a1 := a.f0) (a2 := a.f1) r0 gr rfl n0 n1 e0 e1 hE (pp _ _ (by omega)) (dd _ _ (by omega))
  obtain ⟨w1, w2, w3, w4⟩ := sep_swp (a := a) (b := D) (K := 845000000) cx cy cz
  -- the dot product
  have hdot : 900000 * 1000000 ≤ rdot a D := by
    have b0 := iabs_nn P.f0
    have i0 : P.f0 * (g * D.f0 - N * P.f0) + P.f1 * (g * D.f1 - N * P.f1) + P.f2 * (g * D.f2 - N * P.f2) = g * (P.f0 * D.f0 + P.f1 * D.f1 + P.f2 * D.f2) - N * (P.f0 * P.f0 + P.f1 * P.f1 + P.f2 * P.f2) := by grind
    have m : ∀ u e : Int, iabs u ≤ r + 2 → iabs e ≤ 96500000 * (r + 2) + 1000100000000 → -((r + 2) * (430000000 * r)) ≤ u * e := fun u e hu he => by
      obtain ⟨u1, u2⟩ := iabs_in hu
      obtain ⟨v1, v2⟩ := iabs_in he
      exact (mul_bd2 (a := u) (b := e) (m := r + 2) (n := 430000000 * r) u1 u2 (by omega) (by omega) (by omega)).1
    have cP : ∀ u : Int, u * u ≤ (r + 2) * (r + 2) → iabs u ≤ r + 2 := fun u h => sq_lt (by omega) (by rw [iabs_sq]; exact h)
    have m0 := m _ _ (cP P.f0 (by omega)) e0
    have m1 := m _ _ (cP P.f1 (by omega)) e1
    have m2 := m _ _ (cP P.f2 (by omega)) e2'
    have nb : 999920000000 * (P.f0 * P.f0 + P.f1 * P.f1 + P.f2 * P.f2) ≤ N * (P.f0 * P.f0 + P.f1 * P.f1 + P.f2 * P.f2) := Int.mul_le_mul_of_nonneg_right hN.1 (by omega)
    have er : (r + 2) * (430000000 * r) = 430000000 * (r * r) + 860000000 * r := by grind
    have r3 : r * 3000 ≤ r * r := Int.mul_le_mul_of_nonneg_left r0 (by omega)
    have gd : 996000000000 * (r * r) ≤ g * (P.f0 * D.f0 + P.f1 * D.f1 + P.f2 * D.f2) := by omega
    -- 1e6 P - r a is small
    have k : ∀ p c d : Int, iabs (1000000 * p - r * c) ≤ 500000 → iabs d ≤ 1000006 → 1000000 * (p * d) - 500003000000 ≤ r * (c * d) := fun p c d h hd => by
      obtain ⟨h1, h2⟩ := iabs_in h
      obtain ⟨d1, d2⟩ := iabs_in hd
      have := (mul_bd2 (a := 1000000 * p - r * c) (b := d) (m := 500000) (n := 1000006) h1 h2 d1 d2 (by decide)).2
      have e : (1000000 * p - r * c) * d = 1000000 * (p * d) - r * (c * d) := by grind
      omega
    have cD : ∀ u : Int, u * u ≤ 1000011000000 → iabs u ≤ 1000006 := fun u h => sq_lt (by decide) (by rw [iabs_sq]; omega)
    have k0 := k P.f0 a.f0 D.f0 n0 (cD _ (by omega))
    have k1 := k P.f1 a.f1 D.f1 n1 (cD _ (by omega))
    have k2 := k P.f2 a.f2 D.f2 n2 (cD _ (by omega))
    have ed : r * rdot a D = r * (a.f0 * D.f0) + r * (a.f1 * D.f1) + r * (a.f2 * D.f2) := by unfold rdot; grind
    refine Int.not_lt.1 (fun q => ?_)
    have q2 := Int.mul_lt_mul_of_pos_left (c := r) q (by omega)
    obtain ⟨X, hXX⟩ : ∃ X, P.f0 * D.f0 + P.f1 * D.f1 + P.f2 * D.f2 = X := ⟨_, rfl⟩
    rw [hXX] at gd
    have hX : 1000000 * X ≤ 995000000000 * r := by omega
    have Xp : 0 < g * X := by have := sq_nn r; omega
    have X0 : 0 ≤ X := by
      refine Int.not_lt.1 (fun q3 => ?_)
      have := Int.mul_nonneg g0 (show 0 ≤ -X by omega)
      have e : g * -X = -(g * X) := by grind
      omega
    have u1 : g * X ≤ 1000003 * (r + 2) * X := Int.mul_le_mul_of_nonneg_right gu X0
    have u2 : 1000003 * (r + 2) * (1000000 * X) ≤ 1000003 * (r + 2) * (995000000000 * r) := Int.mul_le_mul_of_nonneg_left hX (by omega)
    have u3 : 1000003 * (r + 2) * (1000000 * X) = 1000000 * (1000003 * (r + 2) * X) := by grind
    have u4 : 1000003 * (r + 2) * (995000000000 * r) = 995002985000000000 * (r * r) + 1990005970000000000 * r := by grind
    omega
  refine ⟨?_, by rw [w4]; exact hdot⟩
  refine sep_small (K := 845) (L := 1463) (d0 := 900000) (m0 := 100) (show iabs (crx (swp a) (swp D)) ≤ 845 * 1000000 by omega) (show iabs (cry (swp a) (swp D)) ≤ 845 * 1000000 by omega) (show iabs (crz (swp a) (swp D)) ≤ 845 * 1000000 by omega) (by decide) (by decide) (by rw [w4]; exact hdot) (by decide) (by decide) (by decide) (by decide) ?_ ?_ ?_
  · rw [tab100.2.1]; decide
  · rw [tab100.1]; decide
  · rw [tab100.1, tab100.2.1]; decide
end Go.Ks.Num
