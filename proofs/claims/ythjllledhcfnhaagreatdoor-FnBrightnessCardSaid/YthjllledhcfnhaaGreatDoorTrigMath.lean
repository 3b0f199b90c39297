/- Angles, sines by a table, the angle of a direction: plain arithmetic, no program. -/
import Derived.Test.YthjllledhcfnhaaGreatDoorRootMath
namespace Go.Ks

/-- an angle of the first turn -/
def nrm (a : Int) : Int := a % 360000
theorem nrm_bd (a : Int) : 0 ≤ nrm a ∧ nrm a ≤ 359999 := by unfold nrm; omega
theorem nrm_id {a : Int} (h0 : 0 ≤ a) (h1 : a ≤ 359999) : nrm a = a := by unfold nrm; omega
theorem nrm_nrm (a : Int) : nrm (nrm a) = nrm a := nrm_id (nrm_bd a).1 (nrm_bd a).2
/-- Go's remainder -/
theorem nrm_tmod (a : Int) : nrm a = if a.tmod 360000 < 0 then a.tmod 360000 + 360000 else a.tmod 360000 := by
  unfold nrm
  rcases Int.lt_or_le a 0 with h | h
  · have e : a.tmod 360000 = -((-a) % 360000) := by
      have := Int.neg_tmod (-a) 360000
      rw [Int.neg_neg] at this
      rw [this, Int.tmod_eq_emod_of_nonneg (by omega)]
    rw [e]
    split <;> omega
  · rw [Int.tmod_eq_emod_of_nonneg h, if_neg (by omega)]
theorem nrm_twice (a : Int) : nrm a = (a.tmod 360000 + 360000).tmod 360000 := by
  have h := nrm_tmod a
  have hb := nrm_bd a
  have h2 : -360000 < a.tmod 360000 ∧ a.tmod 360000 < 360000 := by
    rcases Int.lt_or_le a 0 with h | h
    · have e : a.tmod 360000 = -((-a) % 360000) := by
        have := Int.neg_tmod (-a) 360000
        rw [Int.neg_neg] at this
        rw [this, Int.tmod_eq_emod_of_nonneg (by omega)]
      omega
    · rw [Int.tmod_eq_emod_of_nonneg h]; omega
  rw [Int.tmod_eq_emod_of_nonneg (by omega)]
  rw [h]
  split <;> omega

/-- the sines of whole degrees -/
def sinT : List Int := [0, 17452, 34899, 52336, 69756, 87156, 104528, 121869, 139173, 156434, 173648, 190809, 207912, 224951, 241922, 258819, 275637, 292372, 309017, 325568, 342020, 358368, 374607, 390731, 406737, 422618, 438371, 453990, 469472, 484810, 500000, 515038, 529919, 544639, 559193, 573576, 587785, 601815, 615661, 629320, 642788, 656059, 669131, 681998, 694658, 707107, 719340, 731354, 743145, 754710, 766044, 777146, 788011, 798636, 809017, 819152, 829038, 838671, 848048, 857167, 866025, 874620, 882948, 891007, 898794, 906308, 913545, 920505, 927184, 933580, 939693, 945519, 951057, 956305, 961262, 965926, 970296, 974370, 978148, 981627, 984808, 987688, 990268, 992546, 994522, 996195, 997564, 998630, 999391, 999848, 1000000]
def tab (k : Nat) : Int := sinT.getD k 1000000
theorem tab_rises : ∀ k : Nat, k < 91 → 0 ≤ tab k ∧ tab k ≤ tab (k + 1) ∧ tab (k + 1) ≤ 1000000 ∧ tab (k + 1) - tab k ≤ 17453 := by decide
/-- the sine of an angle of the first quarter -/
def sinQ (a : Int) : Int := tab (a / 1000).toNat + divr ((tab ((a / 1000).toNat + 1) - tab (a / 1000).toNat) * (a % 1000)) 1000
theorem sinQ_bd {a : Int} (h0 : 0 ≤ a) (h1 : a ≤ 90000) : tab (a / 1000).toNat ≤ sinQ a ∧ sinQ a ≤ tab ((a / 1000).toNat + 1) := by
  have hk : (a / 1000).toNat < 91 := by omega
  obtain ⟨t0, t1, t2, _⟩ := tab_rises _ hk
  unfold sinQ
  generalize tab (a / 1000).toNat = x at *
  generalize tab ((a / 1000).toNat + 1) = y at *
  have hm0 : 0 ≤ (y - x) * (a % 1000) := Int.mul_nonneg (by omega) (by omega)
  have hm1 : (y - x) * (a % 1000) ≤ (y - x) * 1000 := Int.mul_le_mul_of_nonneg_left (by omega) (by omega)
  have d0 := divr_nonneg (b := 1000) (by omega) hm0
  have d1 := divr_mono (b := 1000) (by omega) hm1
  rw [divr_mul (by omega)] at d1
  omega
theorem sinQ_unit {a : Int} (h0 : 0 ≤ a) (h1 : a ≤ 90000) : 0 ≤ sinQ a ∧ sinQ a ≤ 1000000 := by
  have hk : (a / 1000).toNat < 91 := by omega
  have := tab_rises _ hk
  have := sinQ_bd h0 h1
  omega
/-- the sine of half a turn -/
def sinH (a : Int) : Int := if 90000 < a then sinQ (180000 - a) else sinQ a
theorem sinH_unit {a : Int} (h0 : 0 ≤ a) (h1 : a ≤ 180000) : 0 ≤ sinH a ∧ sinH a ≤ 1000000 := by
  unfold sinH
  split
  · exact sinQ_unit (by omega) (by omega)
  · exact sinQ_unit (by omega) (by omega)
def sine (a : Int) : Int := if 180000 ≤ nrm a then -sinH (nrm a - 180000) else sinH (nrm a)
theorem sine_bd (a : Int) : -1000000 ≤ sine a ∧ sine a ≤ 1000000 := by
  have hb := nrm_bd a
  unfold sine
  split
  · have := sinH_unit (a := nrm a - 180000) (by omega) (by omega)
    omega
  · have := sinH_unit (a := nrm a) (by omega) (by omega)
    omega
def cosi (a : Int) : Int := sine (nrm a + 90000)
theorem cosi_bd (a : Int) : -1000000 ≤ cosi a ∧ cosi a ≤ 1000000 := sine_bd _
theorem sine_nrm (a : Int) : sine (nrm a) = sine a := by unfold sine; rw [nrm_nrm]
theorem cosi_nrm (a : Int) : cosi (nrm a) = cosi a := by unfold cosi; rw [nrm_nrm]
theorem sine_half {a : Int} (h0 : 0 ≤ a) (h1 : a < 180000) : sine a = sinH a := by
  unfold sine
  rw [nrm_id h0 (by omega), if_neg (by omega)]
theorem sine_other {a : Int} (h : 180000 ≤ nrm a) : sine a = -sine (nrm a - 180000) := by
  have hb := nrm_bd a
  rw [sine_half (a := nrm a - 180000) (by omega) (by omega)]
  unfold sine
  rw [if_pos h]

/-- a search by halves: the least of lo .. lo + n for which p answers yes, if p rises -/
def bsr (p : Int → Bool) (lo : Int) (n : Nat) : Int :=
  if h : n = 0 then lo else if p (lo + (n / 2 : Nat)) then bsr p lo (n / 2) else bsr p (lo + (n / 2 : Nat) + 1) (n - n / 2 - 1)
termination_by n
theorem bsr_zero (p : Int → Bool) (lo : Int) : bsr p lo 0 = lo := by unfold bsr; rw [dif_pos rfl]
theorem bsr_yes {p : Int → Bool} {lo : Int} {n : Nat} (h : 0 < n) (hp : p (lo + (n / 2 : Nat)) = true) : bsr p lo n = bsr p lo (n / 2) := by
  rw [bsr.eq_1 p lo n, dif_neg (by omega), if_pos hp]
theorem bsr_no {p : Int → Bool} {lo : Int} {n : Nat} (h : 0 < n) (hp : p (lo + (n / 2 : Nat)) = false) : bsr p lo n = bsr p (lo + (n / 2 : Nat) + 1) (n - n / 2 - 1) := by
  rw [bsr.eq_1 p lo n, dif_neg (by omega), if_neg (by rw [hp]; decide)]
theorem bsr_bd (p : Int → Bool) : ∀ (n : Nat) (lo : Int), lo ≤ bsr p lo n ∧ bsr p lo n ≤ lo + n := by
  intro n
  induction n using Nat.strongRecOn with
  | _ n ih =>
    intro lo
    rcases Nat.eq_zero_or_pos n with rfl | h
    · rw [bsr_zero]; omega
    · cases hp : p (lo + (n / 2 : Nat))
      · rw [bsr_no h hp]
        have := ih (n - n / 2 - 1) (by omega) (lo + (n / 2 : Nat) + 1)
        omega
      · rw [bsr_yes h hp]
        have := ih (n / 2) (by omega) lo
        omega

/-- the angle of a direction of the first eighth -/
def arcP (u v : Int) (m : Int) : Bool := decide (cosi m * u ≤ sine m * v)
def arcE (u v : Int) : Int := bsr (arcP u v) 0 45000
def arcB (y x : Int) : Int := if iabs x < iabs y then 90000 - arcE (min (iabs x) (iabs y)) (max (iabs x) (iabs y)) else arcE (min (iabs x) (iabs y)) (max (iabs x) (iabs y))
/-- the angle of a direction -/
def arct (y x : Int) : Int := if 0 ≤ x ∧ 0 ≤ y then arcB y x else if 0 ≤ y then 180000 - arcB y x else if x < 0 then 180000 + arcB y x else nrm (-arcB y x)
theorem arcE_bd (u v : Int) : 0 ≤ arcE u v ∧ arcE u v ≤ 45000 := by
  have := bsr_bd (arcP u v) 45000 0
  unfold arcE
  omega
theorem arcB_bd (y x : Int) : 0 ≤ arcB y x ∧ arcB y x ≤ 90000 := by
  have := arcE_bd (min (iabs x) (iabs y)) (max (iabs x) (iabs y))
  unfold arcB
  split <;> omega
theorem arct_bd (y x : Int) : 0 ≤ arct y x ∧ arct y x ≤ 359999 := by
  have h := arcB_bd y x
  unfold arct
  split
  · omega
  · split
    · omega
    · split
      · omega
      · exact nrm_bd _
end Go.Ks
