/- Meshes: mirroring twice, plain meshes have no folded cells, blends at the ends, one moved point, refined points: plain law, no program. -/
import Derived.Test.YthjllledhcfnhaaDoorMirror
import Derived.Test.YthjllledhcfnhaaDoorPlainMesh
import Derived.Test.YthjllledhcfnhaaDoorFolded
import Derived.Test.YthjllledhcfnhaaDoorBlend
import Derived.Test.YthjllledhcfnhaaDoorMove
import Derived.Test.YthjllledhcfnhaaDoorGreatest
import Derived.Test.YthjllledhcfnhaaDoorRefineImpl
import Derived.Test.YthjllledhcfnhaaDoorSameMesh
import Derived.Test.YthjllledhcfnhaaDoorR8
namespace Go.Proofs.YthjllledhcfnhaaDoor
open Go.RowKit Go.Lib Go.Ks
theorem mesh_nat {C R : Int} {n : Nat} {l : Nat → SpotD} (ok : MeshOk C R n l) : ∃ c r : Nat, C = (c : Int) ∧ R = (r : Int) ∧ 2 ≤ c ∧ c ≤ 9 ∧ 2 ≤ r ∧ r ≤ 9 ∧ n = r * c := by
  obtain ⟨⟨C1, C2⟩, ⟨R1, R2⟩, hn, _⟩ := ok
  refine ⟨C.toNat, R.toNat, by omega, by omega, by omega, by omega, by omega, by omega, ?_⟩
  have e1 : C = (C.toNat : Int) := by omega
  have e2 : R = (R.toNat : Int) := by omega
  rw [e1, e2, ← Int.natCast_mul] at hn
  rw [Nat.mul_comm]
  omega
theorem mesh_nm {C R : Int} {n : Nat} {l : Nat → SpotD} (ok : MeshOk C R n l) : 4 ≤ n ∧ n ≤ 81 := by
  obtain ⟨c, r, _, _, c1, c2, r1, r2, rfl⟩ := mesh_nat ok
  have h := Nat.mul_le_mul r2 c2
  have h2 := Nat.mul_le_mul r1 c1
  omega
theorem mesh_spots {C R : Int} {n : Nat} {l : Nat → SpotD} (ok : MeshOk C R n l) : ∀ k, k < n → SpotOk (l k) := fun k hk => by
  obtain ⟨⟨a, b⟩, c, d⟩ := plane_pl (ok.2.2.2 k hk)
  exact ⟨⟨by omega, by omega⟩, by omega, by omega⟩
/-- where the mirror takes a point from -/
theorem mir_idx {c r q : Nat} (hq : q < r * c) : q / c * c + (c - 1 - q % c) < r * c ∧ (q / c * c + (c - 1 - q % c)) / c * c + (c - 1 - (q / c * c + (c - 1 - q % c)) % c) = q := by
  have hc : 0 < c := by
    rcases Nat.eq_zero_or_pos c with rfl | h
    · simp at hq
    · exact h
  have hm := Nat.mod_lt q hc
  have hd : q / c < r := (Nat.div_lt_iff_lt_mul hc).2 hq
  have he := Nat.div_add_mod q c
  have h1 : (q / c + 1) * c ≤ r * c := Nat.mul_le_mul_right c hd
  rw [Nat.add_mul, Nat.one_mul] at h1
  have e1 : (q / c * c + (c - 1 - q % c)) / c = q / c := by
    have hlt : c - 1 - q % c < c := by omega
    rw [Nat.mul_comm (q / c) c, Nat.mul_add_div hc, Nat.div_eq_of_lt hlt, Nat.add_zero]
  have e2 : (q / c * c + (c - 1 - q % c)) % c = c - 1 - q % c := by
    have hlt : c - 1 - q % c < c := by omega
    rw [Nat.mul_comm (q / c) c, Nat.mul_add_mod, Nat.mod_eq_of_lt hlt]
  rw [e1, e2]
  have e3 : q / c * c = c * (q / c) := Nat.mul_comm _ _
  omega
theorem mir_ok {C R : Int} {n : Nat} {l : Nat → SpotD} (ok : MeshOk C R n l) : MeshOk C R n (mirL C.toNat l) := by
  obtain ⟨c, r, rfl, rfl, c1, c2, r1, r2, rfl⟩ := mesh_nat ok
  refine ⟨ok.1, ok.2.1, ok.2.2.1, fun k hk => ?_⟩
  have h := plane_iff.1 (ok.2.2.2 _ (mir_idx hk).1)
  refine plane_iff.2 ?_
  show (-2000000 ≤ -(l _).f0 ∧ _) ∧ _
  rw [Int.toNat_natCast]
  refine ⟨⟨by omega, ?_⟩, h.2⟩
  show -(l _).f0 ≤ _
  omega
theorem mir_mir {C R : Int} {n : Nat} {l : Nat → SpotD} (ok : MeshOk C R n l) : ∀ j, j < n → mirL C.toNat (mirL C.toNat l) j = l j := fun j hj => by
  obtain ⟨c, r, rfl, rfl, c1, c2, r1, r2, rfl⟩ := mesh_nat ok
  have h := (mir_idx hj).2
  simp only [mirL, Int.toNat_natCast]
  rw [h, Int.neg_neg]
theorem same_of {C R : Int} {n : Nat} {l m : Nat → SpotD} (h : ∀ j, j < n → l j = m j) : sameM C R n l C R n m = true := by
  rw [sameM_eq]
  exact sameSp_yes ⟨rfl, fun k hk => ⟨congrArg SpotD.f0 (h k hk), congrArg SpotD.f1 (h k hk)⟩⟩
/-- the plain mesh -/
theorem plX_step {C i : Int} (h1 : 2 ≤ C) (h2 : C ≤ 9) (h3 : 0 ≤ i) : plX C i < plX C (i + 1) := by
  unfold plX
  have a := divr_mono (a := 2000000 * i + 1 * (C - 1)) (a' := 2000000 * (i + 1)) (b := C - 1) (by omega) (by omega)
  have b : divr (2000000 * i + 1 * (C - 1)) (C - 1) = divr (2000000 * i) (C - 1) + 1 := by
    rw [divr_pos (by omega), divr_pos (by omega)]
    rw [show 2 * (2000000 * i + 1 * (C - 1)) + (C - 1) = 2 * (2000000 * i) + (C - 1) + 1 * (2 * (C - 1)) by omega, Int.add_mul_ediv_right _ _ (by omega)]
  omega
theorem turn_pos {x0 x1 y0 y1 : Int} (hx : x0 < x1) (hy : y0 < y1) : turnB ⟨x0, y0⟩ ⟨x1, y0⟩ ⟨x1, y1⟩ = true ∧ turnB ⟨x1, y0⟩ ⟨x1, y1⟩ ⟨x0, y1⟩ = true ∧ turnB ⟨x1, y1⟩ ⟨x0, y1⟩ ⟨x0, y0⟩ = true ∧ turnB ⟨x0, y1⟩ ⟨x0, y0⟩ ⟨x1, y0⟩ = true := by
  have p : 0 < (x1 - x0) * (y1 - y0) := Int.mul_pos (by omega) (by omega)
  have q1 : (x0 - x1) * (y0 - y1) = (x1 - x0) * (y1 - y0) := by grind
  have q2 : (y1 - y0) * (x0 - x1) = -((x1 - x0) * (y1 - y0)) := by grind
  have q3 : (y0 - y1) * (x1 - x0) = -((x1 - x0) * (y1 - y0)) := by grind
  unfold turnB sideV
  simp only [decide_eq_true_eq]
  simp only [Int.sub_self, Int.zero_mul, Int.sub_zero]
  refine ⟨p, ?_, ?_, ?_⟩ <;> omega
theorem bad_plain {C R : Int} (h1 : 2 ≤ C) (h2 : C ≤ 9) (h3 : 2 ≤ R) (h4 : R ≤ 9) {x y : Nat} (hx : x < C.toNat - 1) : badB C.toNat (plL C R) (y * C.toNat + x) = false := by
  have e0 := plL_at (C := C) (R := R) (r := y) (i := x) (by omega) (by omega)
  have e1 := plL_at (C := C) (R := R) (r := y) (i := x + 1) (by omega) (by omega)
  have e2 := plL_at (C := C) (R := R) (r := y + 1) (i := x) (by omega) (by omega)
  have e3 := plL_at (C := C) (R := R) (r := y + 1) (i := x + 1) (by omega) (by omega)
  rw [Nat.add_mul, Nat.one_mul] at e2 e3
  rw [show y * C.toNat + (x + 1) = y * C.toNat + x + 1 by omega] at e1
  rw [show y * C.toNat + C.toNat + x = y * C.toNat + x + C.toNat by omega] at e2
  rw [show y * C.toNat + C.toNat + (x + 1) = y * C.toNat + x + C.toNat + 1 by omega] at e3
  obtain ⟨t1, t2, t3, t4⟩ := turn_pos (plX_step (i := (x : Int)) h1 h2 (by omega)) (plX_step (i := (y : Int)) h3 h4 (by omega))
  unfold badB
  rw [e0, e1, e2, e3]
  rw [show (((x + 1 : Nat) : Int)) = (x : Int) + 1 by omega, show (((y + 1 : Nat) : Int)) = (y : Int) + 1 by omega, t1, t2, t3, t4]
  rfl
theorem fold_plain {C R : Int} (h1 : 2 ≤ C) (h2 : C ≤ 9) (h3 : 2 ≤ R) (h4 : R ≤ 9) : ∀ y, foldAll C.toNat (plL C R) y = []
  | 0 => rfl
  | y + 1 => by
    have row : ∀ x, x ≤ C.toNat - 1 → foldRow C.toNat (plL C R) y x = [] := by
      intro x
      induction x with
      | zero => intro _; rfl
      | succ x ih =>
        intro hx
        unfold foldRow
        rw [ih (by omega), bad_plain h1 h2 h3 h4 (by omega)]
        rfl
    unfold foldAll
    rw [fold_plain h1 h2 h3 h4 y, row _ (Nat.le_refl _)]
    rfl
theorem pl_ok {C R : Int} (h1 : 2 ≤ C) (h2 : C ≤ 9) (h3 : 2 ≤ R) (h4 : R ≤ 9) : MeshOk C R (R.toNat * C.toNat) (plL C R) := by
  refine ⟨⟨h1, h2⟩, ⟨h3, h4⟩, ?_, fun k hk => ?_⟩
  · rw [Int.natCast_mul, Int.mul_comm, show (R.toNat : Int) = R by omega, show (C.toNat : Int) = C by omega]
  · have hc : 0 < C.toNat := by omega
    have m := Nat.mod_lt k hc
    have d : k / C.toNat < R.toNat := (Nat.div_lt_iff_lt_mul hc).2 hk
    have a := pl_bd (C := C) (i := ((k % C.toNat : Nat) : Int)) h1 h2 (Int.natCast_nonneg _) (by omega)
    have b := pl_bd (C := R) (i := ((k / C.toNat : Nat) : Int)) h3 h4 (Int.natCast_nonneg _) (by omega)
    exact plane_iff.2 ⟨⟨Int.le_trans (by decide) a.2.1, Int.le_trans a.2.2 (by decide)⟩, Int.le_trans (by decide) b.2.1, Int.le_trans b.2.2 (by decide)⟩
/-- blends at the ends -/
theorem blend_low (l0 l1 : Nat → SpotD) (j : Nat) : blendL l0 l1 0 j = l0 j := by
  unfold blendL betw
  rw [Int.mul_zero, Int.mul_zero, show divr 0 1000 = 0 by decide, Int.add_zero, Int.add_zero]
theorem blend_high (l0 l1 : Nat → SpotD) (j : Nat) : blendL l0 l1 1000 j = l1 j := by
  unfold blendL betw
  rw [divr_mul (by decide), divr_mul (by decide)]
  rw [show (l0 j).f0 + ((l1 j).f0 - (l0 j).f0) = (l1 j).f0 by omega, show (l0 j).f1 + ((l1 j).f1 - (l0 j).f1) = (l1 j).f1 by omega]
/-- one moved point -/
theorem gap_self (x y : Int) : gapS x y x y = 0 := by unfold gapS; simp
theorem gap_nn (x y p q : Int) : 0 ≤ gapS x y p q := by
  have nn : ∀ t : Int, 0 ≤ t * t := fun t => by
    rcases Int.le_total 0 t with h0 | h0
    · exact Int.mul_nonneg h0 h0
    · have := Int.mul_nonneg (a := -t) (b := -t) (by omega) (by omega)
      rwa [Int.neg_mul_neg] at this
  have := nn (x - p)
  have := nn (y - q)
  unfold gapS
  omega
theorem gmax_mov (l : Nat → SpotD) (k : Nat) (px py : Int) : ∀ n, gmax l (movL k px py l) n = if k < n then gapS (l k).f0 (l k).f1 px py else 0
  | 0 => by simp [gmax]
  | n + 1 => by
    unfold gmax
    rw [gmax_mov l k px py n]
    have nn := gap_nn (l k).f0 (l k).f1 px py
    by_cases e : n = k
    · subst e
      rw [if_neg (by omega), if_pos (by omega)]
      unfold movL
      rw [if_pos rfl]
      show max 0 (gapS _ _ px py) = _
      omega
    · have : movL k px py l n = l n := if_neg e
      rw [this, gap_self]
      by_cases h : k < n
      · rw [if_pos h, if_pos (by omega)]; omega
      · rw [if_neg h, if_neg (by omega)]; omega
theorem mov_ok {C R : Int} {n k : Nat} {l : Nat → SpotD} {px py : Int} (ok : MeshOk C R n l) (h : plane px py = true) : MeshOk C R n (movL k px py l) := by
  refine ⟨ok.1, ok.2.1, ok.2.2.1, fun j hj => ?_⟩
  unfold movL
  by_cases e : j = k
  · rw [if_pos e]; exact h
  · rw [if_neg e]; exact ok.2.2.2 j hj
/-- refined meshes -/
theorem four_bd {a b c d : Int} (ha : -2000000 ≤ a ∧ a ≤ 2000000) (hb : -2000000 ≤ b ∧ b ≤ 2000000) (hc : -2000000 ≤ c ∧ c ≤ 2000000) (hd : -2000000 ≤ d ∧ d ≤ 2000000) : -2000000 ≤ divr (a + b + c + d) 4 ∧ divr (a + b + c + d) 4 ≤ 2000000 := by
  have e1 := divr_mono (a := -2000000 * 4) (a' := a + b + c + d) (b := 4) (by decide) (by omega)
  have e2 := divr_mono (a := a + b + c + d) (a' := 2000000 * 4) (b := 4) (by decide) (by omega)
  rw [divr_mul (by decide)] at e1 e2
  exact ⟨e1, e2⟩
theorem ref_ok {C R : Int} {n : Nat} {l : Nat → SpotD} (h : RefineOk C R n l) : MeshOk (2 * C - 1) (2 * R - 1) ((2 * R.toNat - 1) * (2 * C.toNat - 1)) (refL C.toNat l) := by
  obtain ⟨ok, h1, h2⟩ := h
  obtain ⟨c, r, rfl, rfl, c1, c2, r1, r2, rfl⟩ := mesh_nat ok
  rw [Int.toNat_natCast, Int.toNat_natCast]
  refine ⟨⟨by omega, h1⟩, ⟨by omega, h2⟩, ?_, fun k hk => ?_⟩
  · rw [Int.natCast_mul, Int.mul_comm, show ((2 * r - 1 : Nat) : Int) = 2 * (r : Int) - 1 by omega, show ((2 * c - 1 : Nat) : Int) = 2 * (c : Int) - 1 by omega]
  · have hc : 0 < 2 * c - 1 := by omega
    have m := Nat.mod_lt k hc
    have d : k / (2 * c - 1) < 2 * r - 1 := (Nat.div_lt_iff_lt_mul hc).2 hk
    have hin := refK_in (c := c) (r := r) (n := r * c) c1 rfl d m
    have P : ∀ j, j < r * c → (-2000000 ≤ (l j).f0 ∧ (l j).f0 ≤ 2000000) ∧ (-2000000 ≤ (l j).f1 ∧ (l j).f1 ≤ 2000000) := fun j hj => plane_iff.1 (ok.2.2.2 j hj)
    have p0 := P (refK c (k / (2 * c - 1)) (k % (2 * c - 1))) (by omega)
    have p1 := P (refK c (k / (2 * c - 1)) (k % (2 * c - 1)) + k % (2 * c - 1) % 2) (by omega)
    have p2 := P (refK c (k / (2 * c - 1)) (k % (2 * c - 1)) + k / (2 * c - 1) % 2 * c) (by omega)
    have p3 := P (refK c (k / (2 * c - 1)) (k % (2 * c - 1)) + k / (2 * c - 1) % 2 * c + k % (2 * c - 1) % 2) (by omega)
    exact plane_iff.2 ⟨four_bd p0.1 p1.1 p2.1 p3.1, four_bd p0.2 p1.2 p2.2 p3.2⟩
theorem ref_idx {c r i k : Nat} (_hc : 2 ≤ c) (hi : i < c) (hk : k < r) : 2 * k * (2 * c - 1) + 2 * i < (2 * r - 1) * (2 * c - 1) := by
  have h : (2 * k + 1) * (2 * c - 1) ≤ (2 * r - 1) * (2 * c - 1) := Nat.mul_le_mul_right _ (by omega)
  rw [Nat.add_mul, Nat.one_mul] at h
  omega
theorem ref_at {c i k : Nat} {l : Nat → SpotD} (_hc : 2 ≤ c) (hi : i < c) : refL c l (2 * k * (2 * c - 1) + 2 * i) = l (k * c + i) := by
  rw [refL_at (by omega)]
  unfold refS refK
  rw [show 2 * k / 2 = k by omega, show 2 * i / 2 = i by omega, show 2 * k % 2 = 0 by omega, show 2 * i % 2 = 0 by omega, Nat.zero_mul, Nat.add_zero]
  have e : ∀ a : Int, divr (a + a + a + a) 4 = a := fun a => by rw [show a + a + a + a = a * 4 by omega, divr_mul (by decide)]
  simp only [e]
end Go.Proofs.YthjllledhcfnhaaDoor
