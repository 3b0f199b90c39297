/- Views of a dome: plain law, no program. -/
import Derived.Test.YthjllledhcfnhaaDoorDomeNum
import Derived.Test.YthjllledhcfnhaaDoorDomeWorst
import Derived.Test.YthjllledhcfnhaaDoorApart
namespace Go.Proofs.YthjllledhcfnhaaDoor
open Go.RowKit Go.Lib Go.Ks Go.Ks.Num
theorem angB_up (v : VectorD) : -90000 ≤ angB v ∧ angB v ≤ 90000 := by
  have h0 := iroot_nonneg (v.f0 * v.f0 + v.f1 * v.f1)
  unfold angB
  generalize iroot (v.f0 * v.f0 + v.f1 * v.f1) = h at *
  have b := arcB_bd v.f2 h
  have e : arct v.f2 h = arcB v.f2 h ∨ arct v.f2 h = nrm (-arcB v.f2 h) := by
    unfold arct
    by_cases z : 0 ≤ v.f2
    · exact .inl (if_pos ⟨h0, z⟩)
    · rw [if_neg (fun q => z q.2), if_neg z, if_neg (by omega)]
      exact .inr rfl
  rcases e with e | e
  · rw [e, if_neg (by omega)]; omega
  · rw [e]
    unfold nrm
    split <;> omega
theorem sep_symm (a b : VectorD) : sepV a b = sepV b a := by
  have nn : ∀ t : Int, divr (-t) 1000000 = -divr t 1000000 := fun t => divr_neg_eq (by decide)
  have l : lenV (crossV a b) = lenV (crossV b a) := by
    unfold lenV crossV
    simp only
    have e0 : b.f1 * a.f2 - b.f2 * a.f1 = -(a.f1 * b.f2 - a.f2 * b.f1) := by grind
    have e1 : b.f2 * a.f0 - b.f0 * a.f2 = -(a.f2 * b.f0 - a.f0 * b.f2) := by grind
    have e2 : b.f0 * a.f1 - b.f1 * a.f0 = -(a.f0 * b.f1 - a.f1 * b.f0) := by grind
    rw [e0, e1, e2, nn, nn, nn, neg_sq, neg_sq, neg_sq]
  have d : dotV a b = dotV b a := by
    unfold dotV
    congr 1
    grind
  unfold sepV
  rw [l, d]
  by_cases h : isZ a ∨ isZ b
  · rw [if_pos h, if_pos h.symm]
  · rw [if_neg h, if_neg (fun q => h q.symm)]
theorem dot_of {a b : VectorD} (h : 1000000 ≤ rdot a b) : 1 ≤ dotV a b := by
  have := divr_mono (a := 1 * 1000000) (a' := rdot a b) (b := 1000000) (by decide) (by omega)
  rw [divr_mul (by decide)] at this
  exact this
theorem not_z {a b : VectorD} (h : 1000000 ≤ rdot a b) : ¬ isZ a ∧ ¬ isZ b := by
  constructor
  · rintro ⟨h0, h1, h2⟩
    unfold rdot at h
    rw [h0, h1, h2] at h
    simp at h
  · rintro ⟨h0, h1, h2⟩
    unfold rdot at h
    rw [h0, h1, h2] at h
    simp at h
theorem ok_of {a b : VectorD} (h : 1000000 ≤ rdot a b) : okV a b = true := by
  obtain ⟨z1, z2⟩ := not_z h
  refine okV_of (dot_of h) ?_ ?_
  · exact decide_eq_false z1
  · exact decide_eq_false z2
theorem sep_self (lon lat : Int) : sepV (dirV lon lat) (dirV lon lat) = 0 := by
  have h := (dir_norm lon lat).1
  have d := dot_of (a := dirV lon lat) (b := dirV lon lat) (by omega)
  obtain ⟨z, _⟩ := not_z (a := dirV lon lat) (b := dirV lon lat) (by omega)
  rw [sepV_nz (fun q => z (q.elim id id))]
  have l : lenV (crossV (dirV lon lat) (dirV lon lat)) = 0 := by
    unfold lenV crossV
    simp only
    rw [Int.mul_comm (dirV lon lat).f2 (dirV lon lat).f1, Int.sub_self, Int.mul_comm (dirV lon lat).f0 (dirV lon lat).f2, Int.sub_self, Int.mul_comm (dirV lon lat).f1 (dirV lon lat).f0, Int.sub_self]
    decide
  rw [l]
  have := arct_le (c := 0) (d := dotV (dirV lon lat) (dirV lon lat)) (m0 := 0) (by decide) (by omega) (by omega) (by decide) (by decide) (by rw [Int.zero_mul]; exact Int.mul_nonneg (by decide) (by omega))
  omega
theorem pt_len {r : Int} (az alt : Int) (r0 : 3000 ≤ r) (r1 : r ≤ 12000) : r - 3 ≤ lenV (ptV r az alt) ∧ lenV (ptV r az alt) ≤ r + 2 := by
  obtain ⟨p1, p2, _⟩ := pt_norm (r := r) az alt r0 r1
  refine ⟨le_iroot (by omega) p1, iroot_le (by omega) ?_⟩
  have e : (r + 2 + 1) * (r + 2 + 1) = (r + 2) * (r + 2) + 2 * (r + 2) + 1 := by grind
  have : rdot (ptV r az alt) (ptV r az alt) = (ptV r az alt).f0 * (ptV r az alt).f0 + (ptV r az alt).f1 * (ptV r az alt).f1 + (ptV r az alt).f2 * (ptV r az alt).f2 := rfl
  omega
theorem pt_high {r az alt : Int} (r0 : 0 ≤ r) (h0 : 0 ≤ alt) (h1 : alt ≤ 90000) : 0 ≤ (ptV r az alt).f2 := by
  show 0 ≤ divr (r * sine alt) 1000000
  refine divr_nonneg (by decide) (Int.mul_nonneg r0 ?_)
  rw [(sine_q h0 h1).1]
  exact (sinQ_unit h0 h1).1
theorem wH_le {r : Int} {s : VectorD} {st a : Int} (h : ∀ x y, errV r s x y ≤ 100) : ∀ n t m, m ≤ 100 → wH r s st a n t m ≤ 100
  | 0, _, _, hm => hm
  | n + 1, t, m, hm => by
    unfold wH
    split
    · exact wH_le h n _ _ (by have := h a t; omega)
    · exact hm
theorem wA_le {r : Int} {s : VectorD} {st : Int} (h : ∀ x y, errV r s x y ≤ 100) : ∀ n t m, m ≤ 100 → wA r s st n t m ≤ 100
  | 0, _, _, hm => hm
  | n + 1, t, m, hm => by
    unfold wA
    split
    · exact wA_le h n _ _ (wH_le h _ _ _ hm)
    · exact hm
theorem worst_le {r st : Int} (r0 : 3000 ≤ r) (r1 : r ≤ 12000) : worstV r ⟨0, 0, 0⟩ st ≤ 100 := wA_le (fun x y => (view_near x y r0 r1).1) _ _ _ (by decide)
theorem way_bd {r : Int} (az alt : Int) (r0 : 3000 ≤ r) (r1 : r ≤ 12000) : r * 2 / 3 - 5 ≤ lenV (viewV r ⟨r / 3, 0, 0⟩ az alt) ∧ lenV (viewV r ⟨r / 3, 0, 0⟩ az alt) ≤ r * 4 / 3 + 5 := by
  obtain ⟨l1, l2⟩ := pt_len (r := r) az alt r0 r1
  have e : lenV (viewV r ⟨r / 3, 0, 0⟩ az alt) = iroot (((ptV r az alt).f0 - r / 3) * ((ptV r az alt).f0 - r / 3) + (ptV r az alt).f1 * (ptV r az alt).f1 + (ptV r az alt).f2 * (ptV r az alt).f2) := by
    unfold lenV viewV
    simp only [Int.sub_zero]
  rw [e]
  have q : lenV (ptV r az alt) = iroot ((ptV r az alt).f0 * (ptV r az alt).f0 + (ptV r az alt).f1 * (ptV r az alt).f1 + (ptV r az alt).f2 * (ptV r az alt).f2) := rfl
  rw [q] at l1 l2
  generalize (ptV r az alt).f0 = x at *
  generalize (ptV r az alt).f1 = y at *
  generalize (ptV r az alt).f2 = z at *
  clear e q
  have xx := sq_nn x
  have yy := sq_nn y
  have zz := sq_nn z
  obtain ⟨s1, s2⟩ := iroot_spec (n := x * x + y * y + z * z) (by omega)
  generalize iroot (x * x + y * y + z * z) = L at *
  obtain ⟨t, ht⟩ : ∃ t, r / 3 = t := ⟨_, rfl⟩
  rw [ht]
  have t0 : 0 ≤ t ∧ 3 * t ≤ r ∧ r < 3 * t + 3 := by omega
  have xL : x ≤ L := by
    have : x < L + 1 := sq_lt' (by omega) (by omega)
    omega
  have xL2 : -x ≤ L := by
    have : -x < L + 1 := sq_lt' (by omega) (by rw [neg_sq]; omega)
    omega
  have e1 : (x - t) * (x - t) = x * x - 2 * (t * x) + t * t := by grind
  have p1 : t * x ≤ t * L := Int.mul_le_mul_of_nonneg_left xL t0.1
  have p2 : t * -x ≤ t * L := Int.mul_le_mul_of_nonneg_left xL2 t0.1
  have p3 : t * -x = -(t * x) := by grind
  constructor
  · have : L - t ≤ iroot ((x - t) * (x - t) + y * y + z * z) := by
      refine le_iroot (by omega) ?_
      have e2 : (L - t) * (L - t) = L * L - 2 * (t * L) + t * t := by grind
      omega
    omega
  · have : iroot ((x - t) * (x - t) + y * y + z * z) ≤ L + t + 1 := by
      refine iroot_le (by omega) ?_
      have e2 : (L + t + 1 + 1) * (L + t + 1 + 1) = (L + 1) * (L + 1) + 2 * (t * L) + 2 * L + 4 * t + t * t + 3 := by grind
      omega
    omega
end Go.Proofs.YthjllledhcfnhaaDoor
