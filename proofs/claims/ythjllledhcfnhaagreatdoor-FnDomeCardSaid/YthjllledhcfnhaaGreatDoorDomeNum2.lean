/- Spots, tilted and levelled directions: bounds of the rounding: plain arithmetic, no program. -/
import Derived.Test.YthjllledhcfnhaaGreatDoorDomeNum
namespace Go.Ks.Num
open Go.Ks
theorem tab_dd2 : ∀ k : Nat, k < 90 → 304500000 ≤ (tab (k + 1) - tab k) * (tab (k + 1) - tab k) + (tab (90 - k) - tab (89 - k)) * (tab (90 - k) - tab (89 - k)) := by decide
theorem near_ends : ∀ k : Nat, k < 90 → ∀ r : Nat, r < 8 → sinQ (1000 * (k : Int) + (r : Int)) * sinQ (1000 * (k : Int) + (r : Int)) + sinQ (90000 - (1000 * (k : Int) + (r : Int))) * sinQ (90000 - (1000 * (k : Int) + (r : Int))) ≤ 1000002000000 := by decide +kernel
/-- sine and cosine: their square is never more than that of a million and one -/
theorem norm_low {a : Int} (h0 : 0 ≤ a) (h1 : a ≤ 90000) : sinQ a * sinQ a + sinQ (90000 - a) * sinQ (90000 - a) ≤ 1000002000000 := by
  obtain ⟨k, r, hk, hr0, hr1, rfl⟩ := split1000 h0 h1
  by_cases c1 : r < 8
  · have := near_ends k hk r.toNat (by omega)
    rw [show ((r.toNat : Nat) : Int) = r by omega] at this
    exact this
  by_cases c2 : 992 < r
  · have := near_ends (89 - k) (by omega) (1000 - r).toNat (by omega)
    rw [show 1000 * ((89 - k : Nat) : Int) + (((1000 - r).toNat : Nat) : Int) = 90000 - (1000 * (k : Int) + r) by omega, show 90000 - (90000 - (1000 * (k : Int) + r)) = 1000 * (k : Int) + r by omega] at this
    omega
  obtain ⟨⟨e1, e2⟩, e3, e4⟩ := chord k hk hr0 hr1
  generalize sinQ (1000 * (k : Int) + r) = S at *
  generalize sinQ (90000 - (1000 * (k : Int) + r)) = C at *
  have q1 := tab_sq k (by omega)
  have q3 := tab_sq (k + 1) (by omega)
  rw [show 90 - (k + 1) = 89 - k by omega] at q3
  have q5 := tab_dd2 k hk
  obtain ⟨t1, t2, t3, t4, t5, t6, t7, t8, t9, t10⟩ := tab_rise k hk
  generalize hp : tab k = p at *
  generalize hp' : tab (k + 1) = p' at *
  generalize hq : tab (90 - k) = q at *
  generalize hq' : tab (89 - k) = q' at *
  clear hp hp' hq hq'
  have hid : (1000 * p + (p' - p) * r) * (1000 * p + (p' - p) * r) + (1000 * q - (q - q') * r) * (1000 * q - (q - q') * r) = 1000 * ((1000 - r) * (p * p + q * q) + r * (p' * p' + q' * q')) - r * (1000 - r) * ((p' - p) * (p' - p) + (q - q') * (q - q')) := by grind
  have b3 : (1000 - r) * (p * p + q * q) ≤ (1000 - r) * 1000001300000 := Int.mul_le_mul_of_nonneg_left (by omega) (by omega)
  have b4 : r * (p' * p' + q' * q') ≤ r * 1000001300000 := Int.mul_le_mul_of_nonneg_left (by omega) (by omega)
  have rr : 7936 ≤ r * (1000 - r) := by
    have := Int.mul_nonneg (a := r - 8) (b := 992 - r) (by omega) (by omega)
    have e : (r - 8) * (992 - r) = r * (1000 - r) - 7936 := by grind
    omega
  have b6 : 7936 * 304500000 ≤ r * (1000 - r) * ((p' - p) * (p' - p) + (q - q') * (q - q')) := Int.mul_le_mul rr q5 (by omega) (by omega)
  have pr : 0 ≤ (p' - p) * r := Int.mul_nonneg (by omega) (by omega)
  have pr2 : (p' - p) * r ≤ (p' - p) * 1000 := Int.mul_le_mul_of_nonneg_left (by omega) (by omega)
  have qr : 0 ≤ (q - q') * r := Int.mul_nonneg (by omega) (by omega)
  have qr2 : (q - q') * r ≤ (q - q') * 1000 := Int.mul_le_mul_of_nonneg_left (by omega) (by omega)
  obtain ⟨n1, n2⟩ := near_sq (x := 1000 * p + (p' - p) * r) (y := 1000 * S) (m := 500) (by omega) (by omega) (by omega)
  obtain ⟨n3, n4⟩ := near_sq (x := 1000 * q - (q - q') * r) (y := 1000 * C) (m := 500) (by omega) (by omega) (by omega)
  generalize 1000 * p + (p' - p) * r = X at *
  generalize 1000 * q - (q - q') * r = Y at *
  have xy : X + Y ≤ 1414300000 := by
    refine sum_of_sq (by omega) (by decide)
  have es : 1000 * S * (1000 * S) = 1000000 * (S * S) := by grind
  have ec : 1000 * C * (1000 * C) = 1000000 * (C * C) := by grind
  omega
theorem norm_hi (a : Int) : sine a * sine a + cosi a * cosi a ≤ 1000002000000 := by
  obtain ⟨b, ⟨b0, b1⟩, h⟩ := quad a
  have := norm_low b0 b1
  rcases h with ⟨_, e1, e2⟩ | ⟨_, e1, e2⟩ | ⟨_, e1, e2⟩ | ⟨_, _, e1, e2⟩ <;> rw [e1, e2] <;> (try rw [neg_sq]) <;> (try rw [neg_sq]) <;> exact this
theorem sum_sc (a : Int) : iabs (sine a) + iabs (cosi a) ≤ 1414300 := by
  have := norm_hi a
  have := pair_bd (a := sine a) (b := cosi a) (Q := 1000002) (by omega) (by decide)
  omega
/-- the radius of a spot -/
theorem spotR_near {alt : Int} (_h0 : 0 ≤ alt) (_h1 : alt ≤ 79998) : 2000000 * (90000 - alt) - 90000 ≤ 180000 * spotR alt ∧ 180000 * spotR alt ≤ 2000000 * (90000 - alt) + 90000 := by
  have := divr_near (a := (90000 - alt) * 1000000) (b := 90000) (by decide)
  unfold spotR
  omega
theorem spot_near (az alt : Int) : iabs (1000000 * (spotV az alt).f0 - spotR alt * sine az) ≤ 500000 ∧ iabs (1000000 * (spotV az alt).f1 - spotR alt * cosi az) ≤ 500000 := ⟨near_mul rfl, near_mul rfl⟩
theorem spot_len {az alt : Int} (h0 : 0 ≤ alt) (h1 : alt ≤ 79998) : spotLen (spotV az alt).f0 (spotV az alt).f1 ≤ 1000000 ∧ spotR alt - 42 ≤ spotLen (spotV az alt).f0 (spotV az alt).f1 ∧ spotLen (spotV az alt).f0 (spotV az alt).f1 ≤ spotR alt + 3 := by
  obtain ⟨r1, r2⟩ := spotR_near h0 h1
  have nH := norm_hi az
  have nL := (norm_a az).1
  have sc := sum_sc az
  have i1 := (iabs_nn (sine az)).1
  have i2 := (iabs_nn (cosi az)).1
  unfold spotLen
  by_cases ha : alt = 0
  · subst ha
    have e : spotR 0 = 1000000 := by decide
    have f0 : (spotV az 0).f0 = sine az := by
      show divr (spotR 0 * sine az) 1000000 = sine az
      rw [e, Int.mul_comm]; exact divr_mul (by decide)
    have f1 : (spotV az 0).f1 = cosi az := by
      show divr (spotR 0 * cosi az) 1000000 = cosi az
      rw [e, Int.mul_comm]; exact divr_mul (by decide)
    rw [f0, f1, e]
    have u := iroot_le (n := sine az * sine az + cosi az * cosi az) (r := 1000000) (by decide) (by omega)
    have l := le_iroot (n := sine az * sine az + cosi az * cosi az) (r := 999958) (by decide) (by omega)
    omega
  · obtain ⟨n0, n1⟩ := spot_near az alt
    generalize (spotV az alt).f0 = x at *
    generalize (spotV az alt).f1 = y at *
    generalize spotR alt = r at *
    have rb : 111000 ≤ r ∧ r ≤ 999990 := by omega
    generalize sine az = S at *
    generalize cosi az = C at *
    have mB : ∀ t : Int, iabs (r * t) ≤ r * iabs t := fun t => by
      have p1 : r * t ≤ r * iabs t := Int.mul_le_mul_of_nonneg_left (iabs_nn t).2.1 (by omega)
      have p2 : r * -t ≤ r * iabs t := Int.mul_le_mul_of_nonneg_left (iabs_nn t).2.2 (by omega)
      have e : r * -t = -(r * t) := by grind
      exact iabs_of (by omega) p1
    obtain ⟨x1, x2⟩ := iabs_in (sq_near n0 (mB S))
    obtain ⟨y1, y2⟩ := iabs_in (sq_near n1 (mB C))
    have e0 : 1000000 * x * (1000000 * x) = 1000000000000 * (x * x) := by grind
    have e1 : 1000000 * y * (1000000 * y) = 1000000000000 * (y * y) := by grind
    have es : r * S * (r * S) + r * C * (r * C) = r * r * (S * S + C * C) := by grind
    have rr := sq_nn r
    have k1 : r * r * 999920000000 ≤ r * r * (S * S + C * C) := Int.mul_le_mul_of_nonneg_left nL rr
    have k2 : r * r * (S * S + C * C) ≤ r * r * 1000002000000 := Int.mul_le_mul_of_nonneg_left nH rr
    have k3 : r * (iabs S + iabs C) ≤ r * 1414300 := Int.mul_le_mul_of_nonneg_left sc (by omega)
    have k4 := Int.mul_add r (iabs S) (iabs C)
    have r3 : r * r ≤ r * 999990 := Int.mul_le_mul_of_nonneg_left rb.2 (by omega)
    have r4 : r * 111000 ≤ r * r := Int.mul_le_mul_of_nonneg_left rb.1 (by omega)
    have q1 : (r + 3 + 1) * (r + 3 + 1) = r * r + 8 * r + 16 := by grind
    have q2 : (r - 42) * (r - 42) = r * r - 84 * r + 1764 := by grind
    refine ⟨iroot_le (by decide) (by omega), ?_, iroot_le (by omega) (by omega)⟩
    exact le_iroot (by omega) (by omega)
theorem at_alt {az alt : Int} (h0 : 0 ≤ alt) (h1 : alt ≤ 79998) : DiscOk (spotV az alt).f0 (spotV az alt).f1 ∧ iabs (atB (spotV az alt).f0 (spotV az alt).f1 - alt) ≤ 4 := by
  obtain ⟨l1, l2, l3⟩ := spot_len (az := az) h0 h1
  obtain ⟨r1, r2⟩ := spotR_near h0 h1
  have rb := spotR_bd h0 (by omega)
  have b : ∀ t : Int, -1000000 ≤ t ∧ t ≤ 1000000 → inB (divr (spotR alt * t) 1000000) (-1000000) 1000000 = true := fun t ht => by
    have m := mul_bd2 (a := spotR alt) (b := t) (m := 1000000) (n := 1000000) (by omega) rb.2 ht.1 ht.2 (by decide)
    exact inB_iff.2 (divr_le (by decide) (by omega) (by omega))
  refine ⟨⟨b _ (sine_bd az), b _ (cosi_bd az), l1⟩, ?_⟩
  unfold atB
  generalize spotLen (spotV az alt).f0 (spotV az alt).f1 = L at *
  have := divr_near (a := L * 90000) (b := 1000000) (by decide)
  generalize divr (L * 90000) 1000000 = D at *
  exact iabs_of (by omega) (by omega)
/-- the eighth: the angle found is near the angle meant -/
theorem eighth_near {r b u v : Int} (hr : 111000 ≤ r) (b0 : 0 ≤ b) (b1 : b ≤ 45010) (hu : iabs (1000000 * u - r * sinQ b) ≤ 500000) (hv : iabs (1000000 * v - r * sinQ (90000 - b)) ≤ 500000) (u0 : 0 ≤ u) (uv : u ≤ v) (v0 : 0 < v) : iabs (arcE u v - b) ≤ 10 := by
  obtain ⟨m0, m1⟩ := arcE_bd u v
  obtain ⟨k1, k2⟩ := arcE_cross u0 uv v0
  generalize arcE u v = m at *
  obtain ⟨u1, u2⟩ := iabs_in hu
  obtain ⟨v1, v2⟩ := iabs_in hv
  have nb := norm_q b0 (by omega)
  have nm := norm_q m0 (by omega)
  have sb := sinQ_unit (a := b) (by omega) (by omega)
  have cb := sinQ_unit (a := 90000 - b) (by omega) (by omega)
  have sm := sinQ_unit (a := m) (by omega) (by omega)
  have cm := sinQ_unit (a := 90000 - m) (by omega) (by omega)
  have smm := sum_of_sq (a := sinQ m) (b := sinQ (90000 - m)) (m := 1414300) (by omega) (by decide)
  have sbb := sum_of_sq (a := sinQ b) (b := sinQ (90000 - b)) (m := 1414300) (by omega) (by decide)
  have cl : 706900 ≤ sinQ (90000 - b) := by
    have h := sin_le (a := 44990) (b := 90000 - b) (by decide) (by omega) (by omega)
    have e2 : 706900 ≤ sinQ 44990 := by decide
    omega
  -- the cross product of the two angles
  have hX : 1000000 * (sinQ m * v - sinQ (90000 - m) * u) - 707150000000 ≤ r * (sinQ m * sinQ (90000 - b) - sinQ (90000 - m) * sinQ b) ∧ r * (sinQ m * sinQ (90000 - b) - sinQ (90000 - m) * sinQ b) ≤ 1000000 * (sinQ m * v - sinQ (90000 - m) * u) + 707150000000 := by
    have p1 := mul_bd2 (a := 1000000 * v - r * sinQ (90000 - b)) (b := sinQ m) (m := 500000) (n := sinQ m) v1 v2 (by omega) (Int.le_refl _) (by decide)
    have p2 := mul_bd2 (a := 1000000 * u - r * sinQ b) (b := sinQ (90000 - m)) (m := 500000) (n := sinQ (90000 - m)) u1 u2 (by omega) (Int.le_refl _) (by decide)
    have e1 : (1000000 * v - r * sinQ (90000 - b)) * sinQ m - (1000000 * u - r * sinQ b) * sinQ (90000 - m) = 1000000 * (sinQ m * v - sinQ (90000 - m) * u) - r * (sinQ m * sinQ (90000 - b) - sinQ (90000 - m) * sinQ b) := by grind
    omega
  have uvr : 1000000 * (u + v) ≤ r * 1414300 + 1000000 := by
    have h := Int.mul_le_mul_of_nonneg_left sbb (show 0 ≤ r by omega)
    have e := Int.mul_add r (sinQ b) (sinQ (90000 - b))
    omega
  obtain ⟨X1, X2⟩ := hX
  refine iabs_of ?_ ?_
  · refine Int.not_lt.1 (fun q => ?_)
    have f := sin_far (a := m) m0 11 (by omega)
    have g := sin_le (a := m + 11) (b := b) (by omega) (by omega) (by omega)
    have g2 := sin_le (a := 90000 - b) (b := 90000 - m) (by omega) (by omega) (by omega)
    have e : m + ((11 : Nat) : Int) = m + 11 := rfl
    rw [e] at f
    have h1 : sinQ m * sinQ (90000 - b) ≤ (sinQ b - 121) * sinQ (90000 - b) := Int.mul_le_mul_of_nonneg_right (by omega) (by omega)
    have h2 : sinQ (90000 - b) * sinQ b ≤ sinQ (90000 - m) * sinQ b := Int.mul_le_mul_of_nonneg_right g2 (by omega)
    have e1 : (sinQ b - 121) * sinQ (90000 - b) = sinQ b * sinQ (90000 - b) - 121 * sinQ (90000 - b) := by grind
    have e2 := Int.mul_comm (sinQ (90000 - b)) (sinQ b)
    have h3 : r * (sinQ m * sinQ (90000 - b) - sinQ (90000 - m) * sinQ b) ≤ r * -85534900 := Int.mul_le_mul_of_nonneg_left (by omega) (by omega)
    omega
  · refine Int.not_lt.1 (fun q => ?_)
    have f := sin_far (a := b) b0 11 (by omega)
    have g := sin_le (a := b + 11) (b := m) (by omega) (by omega) (by omega)
    have g2 := sin_le (a := 90000 - m) (b := 90000 - b) (by omega) (by omega) (by omega)
    have e : b + ((11 : Nat) : Int) = b + 11 := rfl
    rw [e] at f
    have h1 : (sinQ b + 121) * sinQ (90000 - b) ≤ sinQ m * sinQ (90000 - b) := Int.mul_le_mul_of_nonneg_right (by omega) (by omega)
    have h2 : sinQ (90000 - m) * sinQ b ≤ sinQ (90000 - b) * sinQ b := Int.mul_le_mul_of_nonneg_right g2 (by omega)
    have e1 : (sinQ b + 121) * sinQ (90000 - b) = sinQ b * sinQ (90000 - b) + 121 * sinQ (90000 - b) := by grind
    have e2 := Int.mul_comm (sinQ (90000 - b)) (sinQ b)
    have h3 : r * 85534900 ≤ r * (sinQ m * sinQ (90000 - b) - sinQ (90000 - m) * sinQ b) := Int.mul_le_mul_of_nonneg_left (by omega) (by omega)
    omega
theorem arcE_zero {v : Int} (hv : 0 < v) : arcE 0 v = 0 := by
  have := arcE_le (u := 0) (v := v) (m0 := 0) (by decide) hv (by omega) (by decide) (by decide) (by rw [Int.zero_mul]; exact Int.mul_nonneg (by decide) (by omega))
  have := (arcE_bd 0 v).1
  omega
/-- the quarter -/
theorem quarter_near {r b F G : Int} (hr : 111000 ≤ r) (b0 : 0 ≤ b) (b1 : b ≤ 90000) (F0 : 0 ≤ F) (G0 : 0 ≤ G) (hF : iabs (1000000 * F - r * sinQ b) ≤ 500000) (hG : iabs (1000000 * G - r * sinQ (90000 - b)) ≤ 500000) :
    (0 < b → 0 < F) ∧ (b < 90000 → 0 < G) ∧ (b = 0 → F = 0) ∧ (b = 90000 → G = 0) ∧ iabs ((if G < F then 90000 - arcE G F else arcE F G) - b) ≤ 10 ∧ (b = 0 → (if G < F then 90000 - arcE G F else arcE F G) = 0) ∧ (b = 90000 → (if G < F then 90000 - arcE G F else arcE F G) = 90000) := by
  obtain ⟨f1, f2⟩ := iabs_in hF
  obtain ⟨g1, g2⟩ := iabs_in hG
  have z0 := sinQ0
  have z9 := sinQ90
  by_cases c0 : b = 0
  · subst c0
    rw [show (90000 : Int) - 0 = 90000 by omega, z9] at g1 g2
    rw [z0, Int.mul_zero] at f1 f2
    obtain rfl : F = 0 := by omega
    have gp : 0 < G := by omega
    have e : (if G < 0 then 90000 - arcE G 0 else arcE 0 G) = 0 := by rw [if_neg (by omega), arcE_zero gp]
    refine ⟨by omega, fun _ => gp, fun _ => rfl, by omega, ?_, fun _ => e, by omega⟩
    rw [e]
    decide
  by_cases c9 : b = 90000
  · subst c9
    rw [show (90000 : Int) - 90000 = 0 by omega, z0, Int.mul_zero] at g1 g2
    rw [z9] at f1 f2
    obtain rfl : G = 0 := by omega
    have fp : 0 < F := by omega
    have e : (if 0 < F then 90000 - arcE 0 F else arcE F 0) = 90000 := by rw [if_pos fp, arcE_zero fp]; rfl
    refine ⟨fun _ => fp, by omega, by omega, fun _ => rfl, ?_, by omega, fun _ => e⟩
    rw [e]
    decide
  have e1 : sinQ 1 = 17 := by decide
  have s1 : 17 ≤ sinQ b := by
    have := sin_le (a := 1) (b := b) (by decide) (by omega) (by omega)
    omega
  have c1 : 17 ≤ sinQ (90000 - b) := by
    have := sin_le (a := 1) (b := 90000 - b) (by decide) (by omega) (by omega)
    omega
  have p1 : 111000 * 17 ≤ r * sinQ b := Int.mul_le_mul hr s1 (by decide) (by omega)
  have p2 : 111000 * 17 ≤ r * sinQ (90000 - b) := Int.mul_le_mul hr c1 (by decide) (by omega)
  refine ⟨fun _ => by omega, fun _ => by omega, fun h => absurd h c0, fun h => absurd h c9, ?_, fun h => absurd h c0, fun h => absurd h c9⟩
  by_cases q : G < F
  · rw [if_pos q]
    have hb : 45000 ≤ b := by
      refine Int.not_lt.1 (fun w => ?_)
      have f := sin_steep (a := b) (by omega) (by omega)
      have h2 := sin_le (a := b + 1) (b := 90000 - b) (by omega) (by omega) (by omega)
      have h3 : r * (sinQ b + 11) ≤ r * sinQ (90000 - b) := Int.mul_le_mul_of_nonneg_left (by omega) (by omega)
      have e := Int.mul_add r (sinQ b) 11
      omega
    have e := eighth_near (r := r) (b := 90000 - b) (u := G) (v := F) hr (by omega) (by omega) hG (by rw [show 90000 - (90000 - b) = b by omega]; exact hF) (by omega) (by omega) (by omega)
    obtain ⟨a1, a2⟩ := iabs_in e
    exact iabs_of (by omega) (by omega)
  · rw [if_neg q]
    have hb : b ≤ 45010 := by
      refine Int.not_lt.1 (fun w => ?_)
      have h := sin_le (a := 90000 - b) (b := 44990) (by omega) (by omega) (by omega)
      have h2 := sin_le (a := 45010) (b := b) (by omega) (by omega) (by omega)
      have e2 : 707200 ≤ sinQ 45010 := by decide
      have e3 : sinQ 44990 ≤ 707000 := by decide
      have h3 : r * (sinQ (90000 - b) + 200) ≤ r * sinQ b := Int.mul_le_mul_of_nonneg_left (by omega) (by omega)
      have e := Int.mul_add r (sinQ (90000 - b)) 200
      omega
    exact eighth_near hr (by omega) hb hF hG (by omega) (by omega) (by omega)
/-- the turn between two angles, the shorter way -/
def betwA (a b : Int) : Int := min (nrm (nrm b - nrm a)) (360000 - nrm (nrm b - nrm a))
/-- a spot leads back to its azimuth -/
theorem at_az {az alt : Int} (h0 : 0 ≤ alt) (h1 : alt ≤ 79998) : betwA (atA (spotV az alt).f0 (spotV az alt).f1) az ≤ 10 := by
  obtain ⟨r1, r2⟩ := spotR_near h0 h1
  have hr : 111000 ≤ spotR alt := by omega
  obtain ⟨n0, n1⟩ := spot_near az alt
  unfold atA
  obtain ⟨b, ⟨b0, b1⟩, hq⟩ := quad az
  generalize (spotV az alt).f0 = y at *
  generalize (spotV az alt).f1 = x at *
  generalize spotR alt = r at *
  have sb := (sinQ_unit b0 b1).1
  have cb := (sinQ_unit (a := 90000 - b) (by omega) (by omega)).1
  have ps := Int.mul_nonneg (show 0 ≤ r by omega) sb
  have pc := Int.mul_nonneg (show 0 ≤ r by omega) cb
  -- a component with its sign
  have sgn : ∀ t c : Int, 0 ≤ r * c → (iabs (1000000 * t - r * c) ≤ 500000 → 0 ≤ t ∧ iabs (1000000 * iabs t - r * c) ≤ 500000) ∧ (iabs (1000000 * t - r * -c) ≤ 500000 → t ≤ 0 ∧ iabs (1000000 * iabs t - r * c) ≤ 500000) := fun t c hc => by
    have e : r * -c = -(r * c) := by grind
    rw [e]
    constructor
    · intro h
      obtain ⟨a1, a2⟩ := iabs_in h
      have t0 : 0 ≤ t := by omega
      rw [iabs_pos t0]
      exact ⟨t0, h⟩
    · intro h
      obtain ⟨a1, a2⟩ := iabs_in h
      have t0 : t ≤ 0 := by omega
      have e2 : iabs t = -t := by unfold iabs; split <;> omega
      rw [e2]
      exact ⟨t0, iabs_of (by omega) (by omega)⟩
  have hB : arcB y x = if iabs x < iabs y then 90000 - arcE (iabs x) (iabs y) else arcE (iabs y) (iabs x) := by
    unfold arcB
    by_cases q : iabs x < iabs y
    · rw [if_pos q, if_pos q, Int.min_eq_left (by omega), Int.max_eq_right (by omega)]
    · rw [if_neg q, if_neg q, Int.min_eq_right (by omega), Int.max_eq_left (by omega)]
  have bb := arcB_bd y x
  have ax := iabs_nn x
  have ay := iabs_nn y
  have main : ∀ s t : Int, (s = 1 ∨ s = -1) → (t = 1 ∨ t = -1) → (iabs (1000000 * iabs y - r * sinQ b) ≤ 500000) → iabs (1000000 * iabs x - r * sinQ (90000 - b)) ≤ 500000 → (0 < b → 0 < iabs y) ∧ (b < 90000 → 0 < iabs x) ∧ (b = 0 → iabs y = 0) ∧ (b = 90000 → iabs x = 0) ∧ (-10 ≤ arcB y x - b ∧ arcB y x - b ≤ 10) ∧ (b = 0 → arcB y x = 0) ∧ (b = 90000 → arcB y x = 90000) := fun s t _ _ hy hx => by
    have Q := quarter_near hr b0 b1 ay.1 ax.1 hy hx
    rw [← hB] at Q
    obtain ⟨q1, q2, q3, q4, q5, q6, q7⟩ := Q
    exact ⟨q1, q2, q3, q4, iabs_in q5, q6, q7⟩
  have hy0 : y = 0 ↔ iabs y = 0 := by unfold iabs; split <;> omega
  have hx0 : x = 0 ↔ iabs x = 0 := by unfold iabs; split <;> omega
  have sy := sgn y (sinQ b) ps
  have sx := sgn x (sinQ (90000 - b)) pc
  have hn := nrm_bd az
  unfold arct betwA
  generalize arcB y x = B at *
  rcases hq with ⟨e, e1, e2⟩ | ⟨e, e1, e2⟩ | ⟨e, e1, e2⟩ | ⟨bp, e, e1, e2⟩
  · rw [e1] at n0; rw [e2] at n1
    obtain ⟨y1, y2⟩ := sy.1 n0
    obtain ⟨x1, x2⟩ := sx.1 n1
    obtain ⟨q1, q2, q3, q4, ⟨q5, q5'⟩, q6, q7⟩ := main 1 1 (.inl rfl) (.inl rfl) y2 x2
    rw [if_pos ⟨x1, y1⟩, e]
    unfold nrm
    omega
  · rw [e1] at n0; rw [e2] at n1
    obtain ⟨y1, y2⟩ := sy.1 n0
    obtain ⟨x1, x2⟩ := sx.2 n1
    obtain ⟨q1, q2, q3, q4, ⟨q5, q5'⟩, q6, q7⟩ := main 1 1 (.inl rfl) (.inl rfl) y2 x2
    rw [e]
    unfold nrm
    split
    · omega
    · omega
  · rw [e1] at n0; rw [e2] at n1
    obtain ⟨y1, y2⟩ := sy.2 n0
    obtain ⟨x1, x2⟩ := sx.2 n1
    obtain ⟨q1, q2, q3, q4, ⟨q5, q5'⟩, q6, q7⟩ := main 1 1 (.inl rfl) (.inl rfl) y2 x2
    rw [e]
    unfold nrm
    split
    · omega
    · split
      · omega
      · split
        · omega
        · omega
  · rw [e1] at n0; rw [e2] at n1
    obtain ⟨y1, y2⟩ := sy.2 n0
    obtain ⟨x1, x2⟩ := sx.1 n1
    obtain ⟨q1, q2, q3, q4, ⟨q5, q5'⟩, q6, q7⟩ := main 1 1 (.inl rfl) (.inl rfl) y2 x2
    rw [e]
    unfold nrm
    split
    · omega
    · split
      · omega
      · split
        · omega
        · omega
/-- one component of the cross product, along the whole way there and back -/
theorem tilt_comp {ai aj wi wj mi mj Gi Gj Hi Hj g1 N1 vi vj g2 N2 Di Dj : Int}
    (hS : iabs ai + iabs aj ≤ 1414300) (hi : iabs ai ≤ 1000000) (hj : iabs aj ≤ 1000000)
    (ki : 1000000 * (g1 * wi) = N1 * (mi * ai + Gi) + 1000000 * Hi) (kj : 1000000 * (g1 * wj) = N1 * (mj * aj + Gj) + 1000000 * Hj)
    (hm : iabs (mj - mi) ≤ 1300000) (hGi : iabs Gi ≤ 707150000000) (hGj : iabs Gj ≤ 707150000000) (hHi : iabs Hi ≤ 123030000000000000000) (hHj : iabs Hj ≤ 123030000000000000000)
    (n1 : 0 ≤ N1) (n1' : N1 ≤ 1000004000000) (l1 : 999800000000 ≤ g1)
    (vi1 : iabs (1000000 * vi - wi) ≤ 500000) (vj1 : iabs (1000000 * vj - wj) ≤ 500000)
    (n2 : 0 ≤ N2) (n2' : N2 ≤ 1000004000000) (l2 : 999800000000 ≤ g2) (hEi : iabs (g2 * Di - N2 * vi) ≤ 97510000000000) (hEj : iabs (g2 * Dj - N2 * vj) ≤ 97510000000000) :
    iabs (ai * Dj - aj * Di) ≤ 316000000 := by
  -- first: along w
  have c1 := cross_two (p := ai) (q := aj) (a := Gi) (b := Gj) (Int.le_refl _) (Int.le_refl _) hGi hGj
  have c2 := cross_two (p := ai) (q := aj) (a := Hi) (b := Hj) (Int.le_refl _) (Int.le_refl _) hHi hHj
  have c3 := cross_two (p := ai) (q := aj) (a := 1000000 * vi - wi) (b := 1000000 * vj - wj) (Int.le_refl _) (Int.le_refl _) vi1 vj1
  have c4 := cross_two (p := ai) (q := aj) (a := g2 * Di - N2 * vi) (b := g2 * Dj - N2 * vj) (Int.le_refl _) (Int.le_refl _) hEi hEj
  obtain ⟨i1, i2⟩ := iabs_in hi
  obtain ⟨j1, j2⟩ := iabs_in hj
  obtain ⟨m1, m2⟩ := iabs_in hm
  have aa := unit_mul i1 i2 j1 j2
  have ma := mul_bd2 (a := mj - mi) (b := ai * aj) (m := 1300000) (n := 1000000000000) m1 m2 aa.1 aa.2 (by decide)
  generalize iabs ai + iabs aj = T at *
  obtain ⟨u1, u2⟩ := iabs_in c1
  obtain ⟨h1, h2⟩ := iabs_in c2
  obtain ⟨e1, e2⟩ := iabs_in c3
  obtain ⟨d1, d2⟩ := iabs_in c4
  have s1 : 1000000 * (g1 * (ai * wj - aj * wi)) = N1 * ((mj - mi) * (ai * aj) + (ai * Gj - aj * Gi)) + 1000000 * (ai * Hj - aj * Hi) := by
    have : 1000000 * (g1 * (ai * wj - aj * wi)) = ai * (1000000 * (g1 * wj)) - aj * (1000000 * (g1 * wi)) := by grind
    rw [this, ki, kj]
    grind
  have nb : -(1000004000000 * 2301000000000000000) ≤ N1 * ((mj - mi) * (ai * aj) + (ai * Gj - aj * Gi)) ∧ N1 * ((mj - mi) * (ai * aj) + (ai * Gj - aj * Gi)) ≤ 1000004000000 * 2301000000000000000 := mul_bd2 (m := 1000004000000) (by omega) n1' (by omega) (by omega) (by decide)
  generalize N1 * ((mj - mi) * (ai * aj) + (ai * Gj - aj * Gi)) = Z at *
  have bX : ∀ g t M B : Int, 999800000000 ≤ g → g * t ≤ M → M < 999800000000 * B → 0 < B → t < B := fun g t M B hg ht hM hB => by
    refine Int.not_le.1 (fun q => ?_)
    have p1 : 999800000000 * t ≤ g * t := Int.mul_le_mul_of_nonneg_right hg (by omega)
    omega
  have w1 := bX g1 (ai * wj - aj * wi) 176303000000000000000000000 176600000000000 l1 (by omega) (by decide) (by decide)
  have w2 := bX g1 (-(ai * wj - aj * wi)) 176303000000000000000000000 176600000000000 l1 (by rw [Int.mul_neg]; omega) (by decide) (by decide)
  have s2 : ai * (1000000 * vj - wj) - aj * (1000000 * vi - wi) = 1000000 * (ai * vj - aj * vi) - (ai * wj - aj * wi) := by grind
  rw [s2] at e1 e2
  have s3 : ai * (g2 * Dj - N2 * vj) - aj * (g2 * Di - N2 * vi) = g2 * (ai * Dj - aj * Di) - N2 * (ai * vj - aj * vi) := by grind
  rw [s3] at d1 d2
  have nv := mul_bd2 (a := N2) (b := ai * vj - aj * vi) (m := 1000004000000) (n := 177400000) (by omega) n2' (by omega) (by omega) (by decide)
  have x1 := bX g2 (ai * Dj - aj * Di) 315310000000000000000 316000000 l2 (by omega) (by decide) (by decide)
  have x2 := bX g2 (-(ai * Dj - aj * Di)) 315310000000000000000 316000000 l2 (by rw [Int.mul_neg]; omega) (by decide) (by decide)
  exact iabs_of (by omega) (by omega)
/-- the square of a direction -/
theorem dir_hi (lon lat : Int) : 999838000000 ≤ rdot (dirV lon lat) (dirV lon lat) ∧ rdot (dirV lon lat) (dirV lon lat) ≤ 1000007000000 := by
  have nL := And.intro (norm_a lon).1 (norm_hi lon)
  have nB := And.intro (norm_a lat).1 (norm_hi lat)
  have sL := sine_bd lon
  have cL := cosi_bd lon
  have cB := cosi_bd lat
  unfold rdot dirV
  simp only
  generalize sine lat = T at *
  generalize cosi lat = C at *
  generalize sine lon = S at *
  generalize cosi lon = D at *
  have pb := unit_mul cB.1 cB.2 cL.1 cL.2
  have qb := unit_mul cB.1 cB.2 sL.1 sL.2
  obtain ⟨x1, x2⟩ := iabs_in (sq_near (x := C * D) (y := 1000000 * divr (C * D) 1000000) (B := 1000000000000) (near_mul rfl) (iabs_of pb.1 pb.2))
  obtain ⟨y1, y2⟩ := iabs_in (sq_near (x := C * S) (y := 1000000 * divr (C * S) 1000000) (B := 1000000000000) (near_mul rfl) (iabs_of qb.1 qb.2))
  generalize divr (C * D) 1000000 = u at *
  generalize divr (C * S) 1000000 = v at *
  have e1 : 1000000 * u * (1000000 * u) = 1000000000000 * (u * u) := by grind
  have e2 : 1000000 * v * (1000000 * v) = 1000000000000 * (v * v) := by grind
  have e3 : C * D * (C * D) + C * S * (C * S) = C * C * (S * S + D * D) := by grind
  have cc := sq_nn C
  have k1 : C * C * 999920000000 ≤ C * C * (S * S + D * D) := Int.mul_le_mul_of_nonneg_left nL.1 cc
  have k2 : C * C * (S * S + D * D) ≤ C * C * 1000002000000 := Int.mul_le_mul_of_nonneg_left nL.2 cc
  have tt := sq_nn T
  omega
/-- the turned vector, its square -/
theorem rot_norm {a : VectorD} {t : Int} (hv : Vb 1000000 a) (ha : 999838000000 ≤ rdot a a ∧ rdot a a ≤ 1000007000000) (hn : iabs (sine t * sine t + cosi t * cosi t - 1000000000000) ≤ 1300000) :
    iabs (1000000 * (rotV a t).f1 - (a.f1 * cosi t - a.f2 * sine t)) ≤ 500000 ∧ iabs (1000000 * (rotV a t).f2 - (a.f1 * sine t + a.f2 * cosi t)) ≤ 500000 ∧ 999832000000 ≤ rdot (rotV a t) (rotV a t) ∧ rdot (rotV a t) (rotV a t) ≤ 1000016000064 := by
  have n1 : iabs (1000000 * (rotV a t).f1 - (a.f1 * cosi t - a.f2 * sine t)) ≤ 500000 := near_mul rfl
  have n2 : iabs (1000000 * (rotV a t).f2 - (a.f1 * sine t + a.f2 * cosi t)) ≤ 500000 := near_mul rfl
  refine ⟨n1, n2, ?_⟩
  have b := rot_bd t hv
  obtain ⟨⟨b1, b2⟩, b3, b4⟩ := b
  obtain ⟨x1, x2⟩ := iabs_in (sq_near n1 (iabs_of b1 b2))
  obtain ⟨y1, y2⟩ := iabs_in (sq_near n2 (iabs_of b3 b4))
  have e0 : (rotV a t).f0 = a.f0 := rfl
  unfold rdot at *
  rw [e0]
  obtain ⟨v0, v1, v2⟩ := hv
  generalize (rotV a t).f1 = p at *
  generalize (rotV a t).f2 = q at *
  generalize sine t = S at *
  generalize cosi t = C at *
  obtain ⟨k1, k2⟩ := iabs_in hn
  have e1 : 1000000 * p * (1000000 * p) = 1000000000000 * (p * p) := by grind
  have e2 : 1000000 * q * (1000000 * q) = 1000000000000 * (q * q) := by grind
  have e3 : (a.f1 * C - a.f2 * S) * (a.f1 * C - a.f2 * S) + (a.f1 * S + a.f2 * C) * (a.f1 * S + a.f2 * C) = (S * S + C * C - 1000000000000) * (a.f1 * a.f1 + a.f2 * a.f2) + 1000000000000 * (a.f1 * a.f1 + a.f2 * a.f2) := by grind
  have s0 := sq_nn a.f0
  have s1 := sq_nn a.f1
  have s2 := sq_nn a.f2
  have m := mul_bd2 (a := S * S + C * C - 1000000000000) (b := a.f1 * a.f1 + a.f2 * a.f2) (m := 1300000) (n := 1000011000000) k1 k2 (by omega) (by omega) (by decide)
  omega
theorem turn_5 {t : Int} (h : t = 0 ∨ t = 5000 ∨ t = 15000 ∨ t = 30000 ∨ t = 45000) : iabs (sine t * sine t + cosi t * cosi t - 1000000000000) ≤ 1300000 ∧ sine (-t) = -sine t ∧ cosi (-t) = cosi t ∧ iabs (sine t) + iabs (cosi t) ≤ 1414300 := by
  rcases h with rfl | rfl | rfl | rfl | rfl <;> decide
theorem ang_near {v : VectorD} (h0 : 999832000000 ≤ rdot v v) (h1 : rdot v v ≤ 1000016000064) : ∃ g N : Int, (999920000000 ≤ N ∧ N ≤ 1000004000000) ∧ 999800000000 ≤ g ∧ g ≤ 1000011100000 ∧
      iabs (g * (dirV (angA v) (angB v)).f0 - N * v.f0) ≤ 97510000000000 ∧ iabs (g * (dirV (angA v) (angB v)).f1 - N * v.f1) ≤ 97510000000000 ∧ iabs (g * (dirV (angA v) (angB v)).f2 - N * v.f2) ≤ 25510000000000 := by
  obtain ⟨g, N, hN, g0, gq, gl, gu, e0, e1, e2⟩ := ang_core (v := v) (Q := 1000008) (by unfold rdot at h1; omega) (by decide)
  unfold rdot at h0
  refine ⟨g, N, hN, ?_, by omega, by omega, by omega, by omega⟩
  refine sq_lt g0 ?_
  omega
theorem pair_dir {a : VectorD} (h : rdot a a ≤ 1000011000000) : (iabs a.f0 + iabs a.f1 ≤ 1414300 ∧ iabs a.f1 + iabs a.f2 ≤ 1414300 ∧ iabs a.f2 + iabs a.f0 ≤ 1414300) := by
  unfold rdot at h
  have s0 := sq_nn a.f0
  have s1 := sq_nn a.f1
  have s2 := sq_nn a.f2
  have p := fun u v (h : u * u + v * v ≤ 1000011000000) => pair_bd (a := u) (b := v) (Q := 1000006) (by omega) (by decide)
  have p0 := p a.f0 a.f1 (by omega)
  have p1 := p a.f1 a.f2 (by omega)
  have p2 := p a.f2 a.f0 (by omega)
  omega
/-- there and back: the vectors are nearly the same -/
theorem tilt_near {a : VectorD} {t : Int} (hv : Vb 1000000 a) (ha : 999838000000 ≤ rdot a a ∧ rdot a a ≤ 1000007000000) (ht : t = 0 ∨ t = 5000 ∨ t = 15000 ∨ t = 30000 ∨ t = 45000) (D1 D2 : VectorD)
    (h1 : D1 = dirV (angA (rotV a t)) (angB (rotV a t))) (h2 : D2 = dirV (angA (rotV D1 (-t))) (angB (rotV D1 (-t)))) :
    iabs (crx a D2) ≤ 316000000 ∧ iabs (cry a D2) ≤ 316000000 ∧ iabs (crz a D2) ≤ 316000000 ∧ 900000 * 1000000 ≤ rdot a D2 := by
  obtain ⟨hn, hs, hc, hsc⟩ := turn_5 ht
  obtain ⟨r1, r2, r3, r4⟩ := rot_norm hv ha hn
  obtain ⟨g1, N1, ⟨n1, n1'⟩, l1, u1, e0, e1, e2⟩ := ang_near r3 r4
  rw [← h1] at e0 e1 e2
  have dn1 : 999838000000 ≤ rdot D1 D1 ∧ rdot D1 D1 ≤ 1000007000000 := by rw [h1]; exact dir_hi _ _
  have dv1 : Vb 1000000 D1 := by rw [h1]; exact dirV_bd _ _
  have hn' : iabs (sine (-t) * sine (-t) + cosi (-t) * cosi (-t) - 1000000000000) ≤ 1300000 := by rw [hs, hc, neg_sq]; exact hn
  obtain ⟨q1, q2, q3, q4⟩ := rot_norm (t := -t) dv1 dn1 hn'
  obtain ⟨g2, N2, ⟨n2, n2'⟩, l2, u2, f0, f1, f2⟩ := ang_near q3 q4
  rw [← h2] at f0 f1 f2
  rw [hs, hc] at q1 q2
  obtain ⟨p0, p1, p2⟩ := pair_dir (a := a) (by omega)
  have x0 : (rotV a t).f0 = a.f0 := rfl
  have y0 : (rotV D1 (-t)).f0 = D1.f0 := rfl
  rw [x0] at e0
  rw [y0] at f0
  have dn2 : rdot D2 D2 ≤ 1000011000000 := by rw [h2]; exact (dir_norm _ _).2
  obtain ⟨v0, v1, v2⟩ := hv
  have sb := sine_bd t
  have cb := cosi_bd t
  clear h1 h2 hs hc hn' x0 y0 r3 r4 q3 q4
  generalize (rotV a t).f1 = b1 at *
  generalize (rotV a t).f2 = b2 at *
  generalize (rotV D1 (-t)).f1 = c1 at *
  generalize (rotV D1 (-t)).f2 = c2 at *
  generalize sine t = S at *
  generalize cosi t = C at *
  obtain ⟨hn1, hn2⟩ := iabs_in hn
  -- the parts
  have bd : ∀ d e : Int, iabs d ≤ 500000 → iabs e ≤ 500000 → iabs (d * C + e * S) ≤ 707150000000 ∧ iabs (e * C - d * S) ≤ 707150000000 := fun d e hd he => by
    have k1 := cross_two (p := C) (q := S) (a := d) (b := e) (E := 500000) (Int.le_refl _) (Int.le_refl _) hd he
    have k2 := cross_two (p := C) (q := -S) (a := e) (b := d) (E := 500000) (Int.le_refl _) (Int.le_refl _) he hd
    have n : iabs (-S) = iabs S := by unfold iabs; split <;> split <;> omega
    rw [n] at k2
    have i1 : C * e - S * d = e * C - d * S := by grind
    have i2 : C * d - -S * e = d * C + e * S := by grind
    rw [i1] at k1
    rw [i2] at k2
    constructor <;> omega
  have be : ∀ d e : Int, iabs d ≤ 97510000000000 → iabs e ≤ 25510000000000 → iabs (d * C + e * S) ≤ 123030000000000000000 ∧ iabs (e * C - d * S) ≤ 123030000000000000000 := fun d e hd he => by
    obtain ⟨d1, d2⟩ := iabs_in hd
    obtain ⟨e1, e2⟩ := iabs_in he
    have m1 := mul_bd2 (a := d) (b := C) (m := 97510000000000) (n := 1000000) d1 d2 cb.1 cb.2 (by decide)
    have m2 := mul_bd2 (a := e) (b := S) (m := 25510000000000) (n := 1000000) e1 e2 sb.1 sb.2 (by decide)
    have m3 := mul_bd2 (a := e) (b := C) (m := 25510000000000) (n := 1000000) e1 e2 cb.1 cb.2 (by decide)
    have m4 := mul_bd2 (a := d) (b := S) (m := 97510000000000) (n := 1000000) d1 d2 sb.1 sb.2 (by decide)
    exact ⟨iabs_of (by omega) (by omega), iabs_of (by omega) (by omega)⟩
  obtain ⟨G1, G2⟩ := bd (1000000 * b1 - (a.f1 * C - a.f2 * S)) (1000000 * b2 - (a.f1 * S + a.f2 * C)) r1 r2
  obtain ⟨H1, H2⟩ := be (g1 * D1.f1 - N1 * b1) (g1 * D1.f2 - N1 * b2) e1 e2
  have H0 : iabs (1000000 * (g1 * D1.f0 - N1 * a.f0)) ≤ 123030000000000000000 := by
    obtain ⟨d1, d2⟩ := iabs_in e0
    exact iabs_of (by omega) (by omega)
  have G0 : iabs (0 : Int) ≤ 707150000000 := by decide
  have k0 : 1000000 * (g1 * (1000000 * D1.f0)) = N1 * (1000000000000 * a.f0 + 0) + 1000000 * (1000000 * (g1 * D1.f0 - N1 * a.f0)) := by grind
  have k1 : 1000000 * (g1 * (D1.f1 * C - D1.f2 * -S)) = N1 * ((S * S + C * C) * a.f1 + ((1000000 * b1 - (a.f1 * C - a.f2 * S)) * C + (1000000 * b2 - (a.f1 * S + a.f2 * C)) * S)) + 1000000 * ((g1 * D1.f1 - N1 * b1) * C + (g1 * D1.f2 - N1 * b2) * S) := by grind
  have k2 : 1000000 * (g1 * (D1.f1 * -S + D1.f2 * C)) = N1 * ((S * S + C * C) * a.f2 + ((1000000 * b2 - (a.f1 * S + a.f2 * C)) * C - (1000000 * b1 - (a.f1 * C - a.f2 * S)) * S)) + 1000000 * ((g1 * D1.f2 - N1 * b2) * C - (g1 * D1.f1 - N1 * b1) * S) := by grind
  have z0 : iabs (1000000 * D1.f0 - 1000000 * D1.f0) ≤ 500000 := by rw [Int.sub_self]; decide
  have i0 := iabs_of v0.1 v0.2
  have i1 := iabs_of v1.1 v1.2
  have i2 := iabs_of v2.1 v2.2
  have f2' : iabs (g2 * D2.f2 - N2 * c2) ≤ 97510000000000 := by omega
  have nn : ∀ x y : Int, x - y = 0 → iabs (x - y) ≤ 1300000 := fun x y h => by rw [h]; decide
  have hm1 : iabs ((S * S + C * C) - 1000000000000) ≤ 1300000 := hn
  have hm2 : iabs (1000000000000 - (S * S + C * C)) ≤ 1300000 := iabs_of (by omega) (by omega)
  have X := tilt_comp (ai := a.f1) (aj := a.f2) p1 i1 i2 k1 k2 (nn _ _ (by omega)) G1 G2 H1 H2 (by omega) n1' l1 q1 q2 (by omega) n2' l2 f1 f2'
  have Y := tilt_comp (ai := a.f2) (aj := a.f0) p2 i2 i0 k2 k0 hm2 G2 G0 H2 H0 (by omega) n1' l1 q2 z0 (by omega) n2' l2 f2' f0
  have Z := tilt_comp (ai := a.f0) (aj := a.f1) p0 i0 i1 k0 k1 hm1 G0 G1 H0 H1 (by omega) n1' l1 z0 q1 (by omega) n2' l2 f0 f1
  refine ⟨X, Y, Z, ?_⟩
  -- the dot product
  have dp : ∀ (x0 x1 x2 y0 y1 y2 B : Int), iabs x0 ≤ 1000000 → iabs x1 ≤ 1000000 → iabs x2 ≤ 1000000 → iabs y0 ≤ B → iabs y1 ≤ B → iabs y2 ≤ B → 0 ≤ B → -(3000000 * B) ≤ x0 * y0 + x1 * y1 + x2 * y2 := fun x0 x1 x2 y0 y1 y2 B a0 a1 a2 b0 b1 b2 hB => by
    obtain ⟨s1, s2⟩ := iabs_in a0
    obtain ⟨s3, s4⟩ := iabs_in a1
    obtain ⟨s5, s6⟩ := iabs_in a2
    obtain ⟨t1, t2⟩ := iabs_in b0
    obtain ⟨t3, t4⟩ := iabs_in b1
    obtain ⟨t5, t6⟩ := iabs_in b2
    have m0 := mul_bd2 (a := x0) (b := y0) (m := 1000000) (n := B) s1 s2 t1 t2 (by decide)
    have m1 := mul_bd2 (a := x1) (b := y1) (m := 1000000) (n := B) s3 s4 t3 t4 (by decide)
    have m2 := mul_bd2 (a := x2) (b := y2) (m := 1000000) (n := B) s5 s6 t5 t6 (by decide)
    omega
  have dG := dp a.f0 a.f1 a.f2 _ _ _ _ i0 i1 i2 G0 G1 G2 (by decide)
  have dH := dp a.f0 a.f1 a.f2 _ _ _ _ i0 i1 i2 H0 H1 H2 (by decide)
  have dq := dp a.f0 a.f1 a.f2 _ _ _ _ i0 i1 i2 z0 q1 q2 (by decide)
  have dE := dp a.f0 a.f1 a.f2 _ _ _ _ i0 i1 i2 f0 f1 f2' (by decide)
  generalize hw1 : D1.f1 * C - D1.f2 * -S = w1 at *
  generalize hw2 : D1.f1 * -S + D1.f2 * C = w2 at *
  generalize hg1 : (1000000 * b1 - (a.f1 * C - a.f2 * S)) * C + (1000000 * b2 - (a.f1 * S + a.f2 * C)) * S = GG1 at *
  generalize hg2 : (1000000 * b2 - (a.f1 * S + a.f2 * C)) * C - (1000000 * b1 - (a.f1 * C - a.f2 * S)) * S = GG2 at *
  generalize hh0 : 1000000 * (g1 * D1.f0 - N1 * a.f0) = HH0 at *
  generalize hh1 : (g1 * D1.f1 - N1 * b1) * C + (g1 * D1.f2 - N1 * b2) * S = HH1 at *
  generalize hh2 : (g1 * D1.f2 - N1 * b2) * C - (g1 * D1.f1 - N1 * b1) * S = HH2 at *
  have s0 := sq_nn a.f0
  have s1 := sq_nn a.f1
  have s2 := sq_nn a.f2
  have ea : rdot a a = a.f0 * a.f0 + a.f1 * a.f1 + a.f2 * a.f2 := rfl
  rw [ea] at ha
  -- a . w
  have aw : 1000000 * (g1 * (a.f0 * (1000000 * D1.f0) + a.f1 * w1 + a.f2 * w2)) = N1 * (1000000000000 * (a.f0 * a.f0 + a.f1 * a.f1 + a.f2 * a.f2) + (S * S + C * C - 1000000000000) * (a.f1 * a.f1 + a.f2 * a.f2) + (a.f0 * 0 + a.f1 * GG1 + a.f2 * GG2)) + 1000000 * (a.f0 * HH0 + a.f1 * HH1 + a.f2 * HH2) := by
    have e : 1000000 * (g1 * (a.f0 * (1000000 * D1.f0) + a.f1 * w1 + a.f2 * w2)) = a.f0 * (1000000 * (g1 * (1000000 * D1.f0))) + a.f1 * (1000000 * (g1 * w1)) + a.f2 * (1000000 * (g1 * w2)) := by grind
    rw [e, k0, k1, k2]
    grind
  have mn := mul_bd2 (a := S * S + C * C - 1000000000000) (b := a.f1 * a.f1 + a.f2 * a.f2) (m := 1300000) (n := 1000007000000) hn1 hn2 (by omega) (by omega) (by decide)
  generalize (S * S + C * C - 1000000000000) * (a.f1 * a.f1 + a.f2 * a.f2) = MM at *
  generalize a.f0 * 0 + a.f1 * GG1 + a.f2 * GG2 = GS at *
  generalize a.f0 * HH0 + a.f1 * HH1 + a.f2 * HH2 = HS at *
  have low1 : 999920000000 * 999800000000000000000000 ≤ N1 * (1000000000000 * (a.f0 * a.f0 + a.f1 * a.f1 + a.f2 * a.f2) + MM + GS) := Int.mul_le_mul n1 (by omega) (by decide) (by omega)
  have wl : 990000000000000000 ≤ a.f0 * (1000000 * D1.f0) + a.f1 * w1 + a.f2 * w2 := by
    refine Int.not_lt.1 (fun q => ?_)
    generalize a.f0 * (1000000 * D1.f0) + a.f1 * w1 + a.f2 * w2 = Wd at *
    have p : g1 * Wd ≤ g1 * 990000000000000000 := Int.mul_le_mul_of_nonneg_left (by omega) (by omega)
    omega
  have ev : 1000000 * (a.f0 * D1.f0 + a.f1 * c1 + a.f2 * c2) = (a.f0 * (1000000 * D1.f0) + a.f1 * w1 + a.f2 * w2) + (a.f0 * (1000000 * D1.f0 - 1000000 * D1.f0) + a.f1 * (1000000 * c1 - w1) + a.f2 * (1000000 * c2 - w2)) := by grind
  have vl : 989000000000 ≤ a.f0 * D1.f0 + a.f1 * c1 + a.f2 * c2 := by omega
  have eD : a.f0 * (g2 * D2.f0 - N2 * D1.f0) + a.f1 * (g2 * D2.f1 - N2 * c1) + a.f2 * (g2 * D2.f2 - N2 * c2) = g2 * rdot a D2 - N2 * (a.f0 * D1.f0 + a.f1 * c1 + a.f2 * c2) := by unfold rdot; grind
  rw [eD] at dE
  have low2 : 999920000000 * 989000000000 ≤ N2 * (a.f0 * D1.f0 + a.f1 * c1 + a.f2 * c2) := Int.mul_le_mul n2 vl (by decide) (by omega)
  refine Int.not_lt.1 (fun q => ?_)
  have p : g2 * rdot a D2 ≤ g2 * 900000000000 := Int.mul_le_mul_of_nonneg_left (by omega) (by omega)
  omega
/-- levelling undoes tilting -/
theorem level_near {az alt t : Int} (ht : t = 0 ∨ t = 5000 ∨ t = 15000 ∨ t = 30000 ∨ t = 45000) :
    sepV (dirV az alt) (dirV (tiltA (tiltA az alt t) (tiltB az alt t) (-t)) (tiltB (tiltA az alt t) (tiltB az alt t) (-t))) ≤ 40 ∧ 900000 * 1000000 ≤ rdot (dirV az alt) (dirV (tiltA (tiltA az alt t) (tiltB az alt t) (-t)) (tiltB (tiltA az alt t) (tiltB az alt t) (-t))) := by
  have h := tilt_near (a := dirV (nrm (90000 - az)) alt) (t := t) (dirV_bd _ _) (dir_hi _ _) ht _ _ rfl rfl
  have eA : nrm (90000 - tiltA az alt t) = angA (rotV (dirV (nrm (90000 - az)) alt) t) := by
    have b := angA_bd (rotV (dirV (nrm (90000 - az)) alt) t)
    have e : ∀ A : Int, 0 ≤ A → A ≤ 359999 → nrm (90000 - nrm (90000 - A)) = A := fun A h0 h1 => by unfold nrm; omega
    exact e _ b.1 b.2
  have eB : tiltB az alt t = angB (rotV (dirV (nrm (90000 - az)) alt) t) := rfl
  have e2 : tiltA (tiltA az alt t) (tiltB az alt t) (-t) = nrm (90000 - angA (rotV (dirV (nrm (90000 - tiltA az alt t)) (tiltB az alt t)) (-t))) := rfl
  have e3 : tiltB (tiltA az alt t) (tiltB az alt t) (-t) = angB (rotV (dirV (nrm (90000 - tiltA az alt t)) (tiltB az alt t)) (-t)) := rfl
  rw [e2, e3, dir_swp (angA (rotV (dirV (nrm (90000 - tiltA az alt t)) (tiltB az alt t)) (-t))), dir_swp2 az alt, eA, eB]
  generalize dirV (nrm (90000 - az)) alt = a at *
  generalize dirV (angA (rotV (dirV (angA (rotV a t)) (angB (rotV a t))) (-t))) (angB (rotV (dirV (angA (rotV a t)) (angB (rotV a t))) (-t))) = D at *
  obtain ⟨x, y, z, d⟩ := h
  obtain ⟨w1, w2, w3, w4⟩ := sep_swp (a := a) (b := D) (K := 316000000) x y z
  rw [w4]
  refine ⟨?_, d⟩
  refine sep_small (K := 316) (L := 547) (d0 := 900000) (m0 := 40) (show iabs (crx (swp a) (swp D)) ≤ 316 * 1000000 by omega) (show iabs (cry (swp a) (swp D)) ≤ 316 * 1000000 by omega) (show iabs (crz (swp a) (swp D)) ≤ 316 * 1000000 by omega) (by decide) (by decide) (by rw [w4]; exact d) (by decide) (by decide) (by decide) (by decide) ?_ ?_ ?_
  · rw [tab100.2.2.2]; decide
  · rw [tab100.2.2.1]; decide
  · rw [tab100.2.2.1, tab100.2.2.2]; decide
end Go.Ks.Num
