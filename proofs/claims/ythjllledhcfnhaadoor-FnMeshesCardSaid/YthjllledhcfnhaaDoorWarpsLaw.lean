/- FnWarps: plain arithmetic, no program. -/
import Derived.Test.YthjllledhcfnhaaDoorSearchLaw
import Derived.Test.YthjllledhcfnhaaDoorUnwarp
namespace Go.Ks
theorem divr_near {a b : Int} (hb : 0 < b) : -b ≤ 2 * (divr a b * b - a) ∧ 2 * (divr a b * b - a) ≤ b := by
  rcases Int.lt_or_le a 0 with h | h
  · rw [divr_neg h]
    have h1 := Int.mul_ediv_add_emod (2 * (-a) + b) (2 * b)
    have h2 := Int.emod_nonneg (2 * (-a) + b) (b := 2 * b) (by omega)
    have h3 := Int.emod_lt_of_pos (2 * (-a) + b) (b := 2 * b) (by omega)
    generalize (2 * (-a) + b) / (2 * b) = q at *
    generalize (2 * (-a) + b) % (2 * b) = r at *
    have e : 2 * b * q = 2 * (q * b) := by grind
    have e2 : -q * b = -(q * b) := by grind
    rw [e2]
    rw [e] at h1
    generalize q * b = z at *
    omega
  · rw [divr_pos h]
    have h1 := Int.mul_ediv_add_emod (2 * a + b) (2 * b)
    have h2 := Int.emod_nonneg (2 * a + b) (b := 2 * b) (by omega)
    have h3 := Int.emod_lt_of_pos (2 * a + b) (b := 2 * b) (by omega)
    generalize (2 * a + b) / (2 * b) = q at *
    generalize (2 * a + b) % (2 * b) = r at *
    have e : 2 * b * q = 2 * (q * b) := by grind
    rw [e] at h1
    generalize q * b = z at *
    omega
theorem divr_scale {a b m : Int} (hm : 0 < m) : divr (a * m) (b * m) = divr a b := by
  rcases Int.lt_or_le a 0 with h | h
  · have h' : a * m < 0 := Int.mul_neg_of_neg_of_pos h hm
    rw [divr_neg h, divr_neg h']
    have e1 : 2 * (-(a * m)) + b * m = m * (2 * (-a) + b) := by grind
    have e2 : 2 * (b * m) = m * (2 * b) := by grind
    rw [e1, e2, Int.mul_ediv_mul_of_pos _ _ hm]
  · have h' : 0 ≤ a * m := Int.mul_nonneg h (by omega)
    rw [divr_pos h, divr_pos h']
    have e1 : 2 * (a * m) + b * m = m * (2 * a + b) := by grind
    have e2 : 2 * (b * m) = m * (2 * b) := by grind
    rw [e1, e2, Int.mul_ediv_mul_of_pos _ _ hm]
theorem mix_x (a b x y : Int) : mix a b a b x y = divr (a * (1000000 - x) + b * x) 1000000 := by
  have e : mixS a b a b x y = (a * (1000000 - x) + b * x) * 1000000 := by unfold mixS; grind
  unfold mix
  rw [e]
  exact divr_scale (b := 1000000) (m := 1000000) (by decide)
theorem mix_y (a b x y : Int) : mix a a b b x y = divr (a * (1000000 - y) + b * y) 1000000 := by
  have e : mixS a a b b x y = (a * (1000000 - y) + b * y) * 1000000 := by unfold mixS; grind
  unfold mix
  rw [e]
  exact divr_scale (b := 1000000) (m := 1000000) (by decide)
theorem mix_low (a b c d : Int) : mix a b c d 0 0 = a := by
  have e : mixS a b c d 0 0 = a * 1000000000000 := by unfold mixS; grind
  unfold mix
  rw [e]
  exact divr_mul (by decide)
theorem mix_high (a b c d : Int) : mix a b c d 1000000 1000000 = d := by
  have e : mixS a b c d 1000000 1000000 = d * 1000000000000 := by unfold mixS; grind
  unfold mix
  rw [e]
  exact divr_mul (by decide)
section
variable {f f' : Int → Int → Int} (hff : ∀ u v, St.Un u v → f u v = f' u v)
include hff
theorem tryS_congr (u v : Int) (s : St) : tryS f u v s = tryS f' u v s := by
  unfold tryS
  by_cases h : St.Un u v
  · rw [if_pos h, if_pos h, hff u v h]
  · rw [if_neg h, if_neg h]
theorem rowS_congr (j : Nat) (s : St) : ∀ i, rowS f j i s = rowS f' j i s
  | 0 => rfl
  | i + 1 => by unfold rowS; rw [rowS_congr j s i, tryS_congr hff]
theorem gridS_congr : ∀ j, gridS f j = gridS f' j
  | 0 => rfl
  | j + 1 => by unfold gridS; rw [gridS_congr j, rowS_congr hff]
theorem nbRow_congr (u v s b : Int) (st : St) : ∀ i, nbRow f u v s b i st = nbRow f' u v s b i st
  | 0 => rfl
  | i + 1 => by unfold nbRow; rw [nbRow_congr u v s b st i, tryS_congr hff]
theorem nbS_congr (u v s : Int) (st : St) : ∀ b, nbS f u v s b st = nbS f' u v s b st
  | 0 => rfl
  | b + 1 => by unfold nbS; rw [nbS_congr u v s st b, nbRow_congr hff]
theorem roundS_congr (s : Int) (st : St) : roundS f s st = roundS f' s st := nbS_congr hff _ _ _ _ _
theorem roundsS_congr (s : Int) (st : St) : ∀ r, roundsS f s r st = roundsS f' s r st
  | 0 => rfl
  | r + 1 => by unfold roundsS; rw [roundsS_congr s st r, roundS_congr hff]
theorem finS_congr : ∀ (m s : Nat), s ≤ m → ∀ st, finS f s st = finS f' s st
  | 0, s, h, st => by
    obtain rfl : s = 0 := by omega
    rw [finS_zero, finS_zero]
  | m + 1, s, h, st => by
    by_cases h0 : s = 0
    · subst h0; rw [finS_zero, finS_zero]
    · rw [finS_pos (f := f) (s := s) (by omega) st, finS_pos (f := f') (s := s) (by omega) st, roundsS_congr hff]
      exact finS_congr m (s / 2) (by omega) _
theorem searchS_congr : searchS f = searchS f' := by
  unfold searchS
  rw [gridS_congr hff, finS_congr hff _ _ (Nat.le_refl _)]
end
end Go.Ks
namespace Go.Proofs.YthjllledhcfnhaaDoor
open Go.RowKit Go.Lib Go.Ks
/-- a coordinate of the plain mesh's image -/
def plG (C u : Int) : Int := divr (plX C (warpI C u) * (1000000 - warpF C u) + plX C (warpI C u + 1) * warpF C u) 1000000
theorem plX_near {C i : Int} (hC : 2 ≤ C) : -(C - 1) ≤ 2 * ((plX C i + 1000000) * (C - 1) - 2000000 * i) ∧ 2 * ((plX C i + 1000000) * (C - 1) - 2000000 * i) ≤ C - 1 := by
  have h := divr_near (a := 2000000 * i) (b := C - 1) (by omega)
  have e : plX C i + 1000000 = divr (2000000 * i) (C - 1) := by unfold plX; omega
  rw [e]
  exact h
theorem mul_half {e d f : Int} (h1 : -d ≤ 2 * e) (h2 : 2 * e ≤ d) (hf : 0 ≤ f) : -(d * f) ≤ 2 * (e * f) ∧ 2 * (e * f) ≤ d * f := by
  have a1 := Int.mul_le_mul_of_nonneg_right h1 hf
  have a2 := Int.mul_le_mul_of_nonneg_right h2 hf
  have e1 : 2 * e * f = 2 * (e * f) := by grind
  have e2 : -d * f = -(d * f) := by grind
  rw [e1] at a1 a2
  rw [e2] at a1
  exact ⟨a1, a2⟩
theorem plG_even {C : Int} (hC : 2 ≤ C) (hC' : C ≤ 9) : Even (plG C) := fun u hu hu' => by
  have hF := warpF_bd hC hC' hu hu'
  have hx : u * (C - 1) = warpI C u * 1000000 + warpF C u := by unfold warpF; omega
  unfold plG
  generalize warpF C u = F at *
  generalize warpI C u = I at *
  obtain ⟨h0, h0'⟩ := plX_near (C := C) (i := I) hC
  obtain ⟨h1, h1'⟩ := plX_near (C := C) (i := I + 1) hC
  obtain ⟨m0, m0'⟩ := mul_half h0 h0' (f := 1000000 - F) (by omega)
  obtain ⟨m1, m1'⟩ := mul_half h1 h1' (f := F) (by omega)
  have hd := divr_near (a := plX C I * (1000000 - F) + plX C (I + 1) * F) (b := 1000000) (by decide)
  generalize divr (plX C I * (1000000 - F) + plX C (I + 1) * F) 1000000 = q at *
  have key : 2 * ((C - 1) * (plX C I * (1000000 - F) + plX C (I + 1) * F + 1000000000000 - 2000000 * u)) = 2 * (((plX C I + 1000000) * (C - 1) - 2000000 * I) * (1000000 - F)) + 2 * (((plX C (I + 1) + 1000000) * (C - 1) - 2000000 * (I + 1)) * F) := by
    have hx' : 2000000 * (u * (C - 1)) = 2000000 * (I * 1000000 + F) := by rw [hx]
    grind
  have hs : (C - 1) * (1000000 - F) + (C - 1) * F = (C - 1) * 1000000 := by grind
  generalize ((plX C I + 1000000) * (C - 1) - 2000000 * I) * (1000000 - F) = z0 at *
  generalize ((plX C (I + 1) + 1000000) * (C - 1) - 2000000 * (I + 1)) * F = z1 at *
  generalize plX C I * (1000000 - F) + plX C (I + 1) * F = S at *
  generalize (C - 1) * (1000000 - F) = y0 at *
  generalize (C - 1) * F = y1 at *
  have k1 : (C - 1) * (2 * (S + 1000000000000 - 2000000 * u)) ≤ (C - 1) * 1000000 := by
    have e : (C - 1) * (2 * (S + 1000000000000 - 2000000 * u)) = 2 * ((C - 1) * (S + 1000000000000 - 2000000 * u)) := by grind
    rw [e]; omega
  have k2 : (C - 1) * (-1000000) ≤ (C - 1) * (2 * (S + 1000000000000 - 2000000 * u)) := by
    have e : (C - 1) * (2 * (S + 1000000000000 - 2000000 * u)) = 2 * ((C - 1) * (S + 1000000000000 - 2000000 * u)) := by grind
    have e2 : (C - 1) * (-1000000) = -((C - 1) * 1000000) := by grind
    rw [e, e2]; omega
  have q1 := Int.le_of_mul_le_mul_left k1 (by omega)
  have q2 := Int.le_of_mul_le_mul_left k2 (by omega)
  omega
theorem plain_at {C R u v : Int} (hC : 2 ≤ C) (hC' : C ≤ 9) (hR : 2 ≤ R) (hR' : R ≤ 9) (hu : Un u) (hv : Un v) : warpX C R (plL C R) u v = plG C u ∧ warpY C R (plL C R) u v = plG R v := by
  obtain ⟨i0, i1⟩ := warpI_bd hC hC' hu.1 hu.2
  obtain ⟨j0, j1⟩ := warpI_bd hR hR' hv.1 hv.2
  unfold warpX warpY plG
  have hk : (warpK C R u v).toNat = (warpI R v).toNat * C.toNat + (warpI C u).toNat := by
    unfold warpK
    have e : ((warpI R v).toNat * C.toNat + (warpI C u).toNat : Nat) = ((warpI R v * C + warpI C u)).toNat := by
      obtain ⟨a, ha⟩ := Int.eq_ofNat_of_zero_le i0
      obtain ⟨b, hb⟩ := Int.eq_ofNat_of_zero_le j0
      obtain ⟨c, hc⟩ := Int.eq_ofNat_of_zero_le (by omega : 0 ≤ C)
      rw [ha, hb, hc]
      simp only [Int.toNat_natCast]
      rw [← Int.natCast_mul]
      omega
    exact e.symm
  rw [hk]
  have a1 : ((warpI C u).toNat : Int) = warpI C u := Int.toNat_of_nonneg i0
  have a2 : ((warpI R v).toNat : Int) = warpI R v := Int.toNat_of_nonneg j0
  have p0 := plL_at (C := C) (R := R) (r := (warpI R v).toNat) (i := (warpI C u).toNat) (by omega) (by omega)
  have p1 := plL_at (C := C) (R := R) (r := (warpI R v).toNat) (i := (warpI C u).toNat + 1) (by omega) (by omega)
  have p2 := plL_at (C := C) (R := R) (r := (warpI R v).toNat + 1) (i := (warpI C u).toNat) (by omega) (by omega)
  have p3 := plL_at (C := C) (R := R) (r := (warpI R v).toNat + 1) (i := (warpI C u).toNat + 1) (by omega) (by omega)
  rw [← Nat.add_assoc] at p1
  have g2 : ((warpI R v).toNat + 1) * C.toNat + (warpI C u).toNat = (warpI R v).toNat * C.toNat + (warpI C u).toNat + C.toNat := by rw [Nat.add_mul]; omega
  have g3 : ((warpI R v).toNat + 1) * C.toNat + ((warpI C u).toNat + 1) = (warpI R v).toNat * C.toNat + (warpI C u).toNat + C.toNat + 1 := by rw [Nat.add_mul]; omega
  rw [g2] at p2
  rw [g3] at p3
  have b1 : (((warpI C u).toNat + 1 : Nat) : Int) = warpI C u + 1 := by omega
  have b2 : (((warpI R v).toNat + 1 : Nat) : Int) = warpI R v + 1 := by omega
  rw [b1] at p1 p3
  rw [b2] at p2 p3
  rw [a1] at p0 p2
  rw [a2] at p0 p1
  rw [p0, p1, p2, p3]
  exact ⟨mix_x _ _ _ _, mix_y _ _ _ _⟩
theorem plL_ok {C R : Int} (hC : 2 ≤ C) (hC' : C ≤ 9) (hR : 2 ≤ R) (hR' : R ≤ 9) : MeshOk C R (R.toNat * C.toNat) (plL C R) := by
  refine ⟨⟨hC, hC'⟩, ⟨hR, hR'⟩, ?_, fun k hk => ?_⟩
  · rw [Int.natCast_mul, Int.toNat_of_nonneg (by omega), Int.toNat_of_nonneg (by omega), Int.mul_comm]
  · have hc0 : 0 < C.toNat := by omega
    have h1 := Nat.mod_lt k hc0
    have h2 : k / C.toNat < R.toNat := Nat.div_lt_of_lt_mul (by rw [Nat.mul_comm]; exact hk)
    unfold plL
    simp only
    generalize k % C.toNat = a at *
    generalize k / C.toNat = b at *
    obtain ⟨_, x1, x2⟩ := pl_bd (C := C) (i := (a : Int)) hC hC' (by omega) (by omega)
    obtain ⟨_, y1, y2⟩ := pl_bd (C := R) (i := (b : Int)) hR hR' (by omega) (by omega)
    exact plane_iff.2 ⟨⟨by omega, by omega⟩, by omega, by omega⟩
/-- what the search finds on a plain mesh -/
theorem plain_search {C R u v : Int} (hC : 2 ≤ C) (hC' : C ≤ 9) (hR : 2 ≤ R) (hR' : R ≤ 9) (hu : Un u) (hv : Un v) :
    let s := searchS (gapF C R (plL C R) (warpX C R (plL C R) u v) (warpY C R (plL C R) u v))
    (-4 ≤ s.u - u ∧ s.u - u ≤ 4) ∧ (-4 ≤ s.v - v ∧ s.v - v ≤ 4) ∧ 0 ≤ s.d ∧ s.d ≤ 72 := by
  intro s
  have ok := plL_ok hC hC' hR hR'
  have hpl := warp_pl ok hu hv
  have hff : ∀ x y, St.Un x y → gapF C R (plL C R) (warpX C R (plL C R) u v) (warpY C R (plL C R) u v) x y = sepF (plG C) (plG R) u v x y := fun x y hxy => by
    obtain ⟨e1, e2⟩ := plain_at hC hC' hR hR' hxy.1 hxy.2
    obtain ⟨e3, e4⟩ := plain_at hC hC' hR hR' hu hv
    unfold gapF sepF
    rw [e1, e2, e3, e4]
  have hs : s = searchS (sepF (plG C) (plG R) u v) := searchS_congr hff
  have hf : Fok (sepF (plG C) (plG R) u v) := fun x y hxy => by
    rw [← hff x y hxy]
    exact gapF_ok ok hpl x y hxy
  obtain ⟨g1, ⟨n1, n2⟩, d⟩ := search_six hf (plG_even hC hC') (plG_even hR hR') hu hv
  rw [← hs] at g1 n1 n2 d
  unfold iabs at n1 n2
  refine ⟨?_, ?_, g1.2.2, d⟩
  · split at n1 <;> omega
  · split at n2 <;> omega
end Go.Proofs.YthjllledhcfnhaaDoor
