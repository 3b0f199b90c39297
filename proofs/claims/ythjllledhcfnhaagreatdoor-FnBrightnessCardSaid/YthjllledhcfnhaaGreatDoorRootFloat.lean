/- The float square root of an integer, made an integer again: it is not negative and not too great. Plain arithmetic over the floats' words, no program. -/
import Derived.Laws.FloatBits
import GoSem.Core.Float
namespace Go.Ks
open Ieee

theorem lt_pow_log2 (m : Nat) : m < 2 ^ (m.log2 + 1) := Nat.lt_log2_self
theorem log2_le_of_lt {m k : Nat} (h : m < 2 ^ (k + 1)) : m.log2 ≤ k := by
  rcases Nat.eq_zero_or_pos m with rfl | h0
  · simp
  · have := (Nat.log2_lt (by omega : m ≠ 0)).2 h
    omega

/-- not negative, below 2 ^ (K + 1) -/
def Small (K : Int) (d : Datum) : Prop := ∃ (m : Nat) (i : Int), d = .number false m i ∧ (m = 0 ∨ i + (m.log2 : Int) ≤ K)

theorem cut_le (way : Toward) (n drop b : Nat) (h : n < 2 ^ (min drop (n.log2 + 2)) * 2 ^ b) : way.cut false n drop ≤ 2 ^ b := by
  unfold Toward.cut
  simp only [Nat.one_shiftLeft]
  have hp : 0 < 2 ^ (min drop (n.log2 + 2)) := Nat.two_pow_pos _
  have h1 : n / 2 ^ (min drop (n.log2 + 2)) < 2 ^ b := (Nat.div_lt_iff_lt_mul hp).2 (by rw [Nat.mul_comm]; exact h)
  have h2 : ∀ b : Bool, b.toNat ≤ 1 := fun b => by cases b <;> simp
  exact Nat.le_trans (Nat.add_le_add_left (h2 _) _) (by omega)

theorem shl_lt {m a k : Nat} (h : m.log2 + a + 1 ≤ k) : m <<< a < 2 ^ k := by
  rw [Nat.shiftLeft_eq]
  have h1 := lt_pow_log2 m
  have h2 : m * 2 ^ a < 2 ^ (m.log2 + 1) * 2 ^ a := Nat.mul_lt_mul_of_pos_right h1 (Nat.two_pow_pos _)
  rw [← Nat.pow_add] at h2
  exact Nat.lt_of_lt_of_le h2 (Nat.pow_le_pow_right (by omega) (by omega))

theorem log2_shl {m : Nat} (h : m ≠ 0) (a : Nat) : (m <<< a).log2 = m.log2 + a := by
  rw [Nat.shiftLeft_eq]
  have hp := Nat.two_pow_pos a
  have hne : m * 2 ^ a ≠ 0 := Nat.mul_ne_zero h (by omega)
  have h1 : m.log2 + a ≤ (m * 2 ^ a).log2 := (Nat.le_log2 hne).2 (by rw [Nat.pow_add]; exact Nat.mul_le_mul_right _ (Nat.log2_self_le h))
  have h2 : (m * 2 ^ a).log2 < m.log2 + a + 1 := (Nat.log2_lt hne).2 (by
    have h3 := lt_pow_log2 m
    have h4 : m * 2 ^ a < 2 ^ (m.log2 + 1) * 2 ^ a := Nat.mul_lt_mul_of_pos_right h3 hp
    rwa [← Nat.pow_add, show m.log2 + 1 + a = m.log2 + a + 1 by omega] at h4)
  omega

theorem nearest_le {m : Nat} {i K : Int} (hm : m ≠ 0) (h : i + (m.log2 : Int) ≤ K) (hK : -1000 ≤ K) (hK' : K ≤ 1000) :
    double.nearest false m i ≤ (K + 1024).toNat * 2 ^ 52 := by
  unfold Format.nearest
  rw [if_neg hm]
  simp only [Format.word, Bool.false_eq_true, if_false]
  refine Nat.le_trans (Nat.min_le_left _ _) ?_
  have hl : double.leastPlace = -1074 := by decide
  have hb : double.binade = 2 ^ 52 := rfl
  have hf : (double.fractionBits : Int) = 52 := rfl
  rw [hl, hb, hf]
  generalize hlast : max (i + (m.log2 : Int) - 52) (-1074) = last
  have h1 : i + (m.log2 : Int) - 52 ≤ last := by omega
  have h2 : last ≤ K - 52 ∨ last = -1074 := by omega
  have hc : Toward.even.cut false (m <<< (i - last).toNat) (last - i).toNat ≤ 2 ^ 53 := by
    refine cut_le _ _ _ _ ?_
    rw [log2_shl hm, ← Nat.pow_add]
    exact shl_lt (by omega)
  have h3 : (last - -1074).toNat ≤ (K + 1022).toNat := by omega
  have h4 : (last - -1074).toNat * 2 ^ 52 ≤ (K + 1022).toNat * 2 ^ 52 := Nat.mul_le_mul_right _ h3
  have h5 : (K + 1024).toNat = (K + 1022).toNat + 2 := by omega
  have h6 : 2 ^ 53 = 2 * 2 ^ 52 := by rw [Nat.pow_succ 2 52, Nat.mul_comm]
  rw [h6] at hc
  rw [h5, Nat.add_mul]
  exact Nat.add_le_add h4 hc

theorem write_small {d : Datum} {K : Int} (h : Small K d) (hK : -1000 ≤ K) (hK' : K ≤ 1000) : Small (K + 1) (double.read (double.write d)) := by
  obtain ⟨m, i, rfl, hmi⟩ := h
  have hR : ∃ R, double.write (.number false m i) = R ∧ R ≤ (K + 1024).toNat * 2 ^ 52 := by
    refine ⟨_, rfl, ?_⟩
    show double.nearest false m i ≤ _
    rcases Nat.eq_zero_or_pos m with rfl | h0
    · unfold Format.nearest
      rw [if_pos rfl]
      exact Nat.zero_le _
    · exact nearest_le (by omega) (by omega) hK hK'
  obtain ⟨R, hw, hR⟩ := hR
  rw [hw]
  have hs : double.signWeight = 2 ^ 63 := rfl
  have hi : double.infRung = 2047 * 2 ^ 52 := rfl
  have hb : double.binade = 2 ^ 52 := rfl
  have hl : double.leastPlace = -1074 := by decide
  have hK2 : (K + 1024).toNat ≤ 2024 := by omega
  have hRb : R ≤ 2024 * 2 ^ 52 := Nat.le_trans hR (Nat.mul_le_mul_right _ hK2)
  have hRs : R < 2 ^ 63 := by omega
  unfold Format.read
  simp only [hs, hi, hb, hl, Nat.mod_eq_of_lt hRs, Nat.div_eq_of_lt hRs]
  have hneg : ((0 % 2 == 1) : Bool) = false := rfl
  rw [hneg]
  split
  · rename_i hlt
    refine ⟨R, _, rfl, ?_⟩
    have := log2_le_of_lt (k := 51) hlt
    exact .inr (by omega)
  · rename_i hge
    rw [if_pos (by omega)]
    refine ⟨_, _, rfl, .inr ?_⟩
    have h1 : (2 ^ 52 + R % 2 ^ 52).log2 ≤ 52 := log2_le_of_lt (by have := Nat.mod_lt R (show 0 < 2 ^ 52 by omega); omega)
    have h2 : R / 2 ^ 52 ≤ (K + 1024).toNat := by
      rw [Nat.div_le_iff_le_mul (by omega)]
      omega
    omega

theorem rootFrom_le (n : Nat) : ∀ (todo root : Nat), Datum.rootFrom n todo root < root + 2 ^ todo
  | 0, root => by simp [Datum.rootFrom]
  | todo + 1, root => by
    simp only [Datum.rootFrom]
    have hp : 2 ^ (todo + 1) = 2 ^ todo + 2 ^ todo := by rw [Nat.pow_succ]; omega
    have hq := Nat.two_pow_pos todo
    rw [Nat.one_shiftLeft]
    split
    · have := rootFrom_le n todo (root + 2 ^ todo)
      omega
    · have := rootFrom_le n todo root
      omega

theorem root_small {d : Datum} {K : Int} (h : Small K d) : ∃ e, d.root 54 = some e ∧ (Small (K / 2 + 1) e ∨ ∃ i, e = .number false 0 i) := by
  obtain ⟨m, i, rfl, hmi⟩ := h
  unfold Datum.root
  rcases Nat.eq_zero_or_pos m with rfl | h0
  · exact ⟨_, rfl, .inr ⟨i, rfl⟩⟩
  · have hm : m ≠ 0 := by omega
    simp only [if_neg hm, Bool.false_eq_true, if_false]
    refine ⟨_, rfl, .inl ?_⟩
    generalize hq : (2 * 54 - m.log2 + ((i - ((2 * 54 - m.log2 : Nat) : Int)) % 2).toNat) = more
    generalize hw : Datum.rootFrom (m <<< more) ((m <<< more).log2 / 2 + 1) 0 = whole
    have hlt := rootFrom_le (m <<< more) ((m <<< more).log2 / 2 + 1) 0
    rw [hw, log2_shl hm, Nat.zero_add] at hlt
    refine ⟨_, _, rfl, .inr ?_⟩
    have hb : ∀ b : Bool, b.toNat ≤ 1 := fun b => by cases b <;> simp
    have h2 : 2 * whole + (whole * whole != m <<< more).toNat < 2 ^ ((m.log2 + more) / 2 + 1 + 1) := by
      have := hb (whole * whole != m <<< more)
      rw [Nat.pow_succ]
      omega
    have h3 := log2_le_of_lt h2
    omega

theorem toInt_small {d : Datum} {K : Int} (h : Small K d) (hK : K ≤ 60) : ∃ r : Int, d.toInt .zero = some r ∧ 0 ≤ r ∧ r ≤ 2305843009213693952 := by
  obtain ⟨m, i, rfl, hmi⟩ := h
  unfold Datum.toInt Datum.integral
  simp only [signed, Bool.false_eq_true, if_false]
  refine ⟨_, rfl, by omega, ?_⟩
  rw [Nat.shiftLeft_zero]
  have hc : Toward.zero.cut false (m <<< i.toNat) (-i).toNat ≤ 2 ^ 61 := by
    refine cut_le _ _ _ _ ?_
    rcases Nat.eq_zero_or_pos m with rfl | h0
    · rw [Nat.zero_shiftLeft]
      exact Nat.mul_pos (Nat.two_pow_pos _) (Nat.two_pow_pos _)
    · rw [log2_shl (by omega), ← Nat.pow_add]
      exact shl_lt (by omega)
  omega

/-- the float root of an integer: some integer that is not negative -/
theorem sqrt_int (n : Int) (h0 : 0 < n) (h1 : n ≤ 9223372036854775807) :
    ∃ (bits : Nat) (r : Int), FloatKind.f64.format.sqrt (FloatKind.f64.nearest n) = some bits ∧ (FloatKind.f64.decode bits).toInt .zero = some r ∧ 0 ≤ r ∧ r ≤ 2305843009213693952 := by
  have hs : Small 62 (.number (n < 0) n.natAbs 0) := by
    refine ⟨n.natAbs, 0, ?_, .inr ?_⟩
    · rw [decide_eq_false (by omega)]
    · have := log2_le_of_lt (m := n.natAbs) (k := 62) (by omega)
      omega
  have h2 := write_small hs (by omega) (by omega)
  obtain ⟨e, he, hsm⟩ := root_small h2
  have h3 : Small 33 e := by
    rcases hsm with ⟨m, i, rfl, h⟩ | ⟨i, rfl⟩
    · exact ⟨m, i, rfl, h.imp id (fun h => by omega)⟩
    · exact ⟨0, i, rfl, .inl rfl⟩
  have h4 := write_small h3 (by omega) (by omega)
  obtain ⟨r, hr, hr0, hr1⟩ := toInt_small h4 (by omega)
  refine ⟨double.write e, r, ?_, hr, hr0, hr1⟩
  show (((double.read (double.write (.number (n < 0) n.natAbs 0))).root (52 + 2)).map double.write) = _
  rw [he]
  rfl
end Go.Ks
