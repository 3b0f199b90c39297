/- Angles and sines of the reference: what its functions answer. Conditions: the arguments are in range. -/
import Derived.Test.YthjllledhcfnhaaDoorRound
import Derived.Test.YthjllledhcfnhaaDoorTrigMath
namespace Go.Ks
theorem sinQ_at {k : Nat} {r : Int} (h0 : 0 ≤ r) (h1 : r < 1000) : sinQ (1000 * (k : Int) + r) = tab k + divr ((tab (k + 1) - tab k) * r) 1000 := by
  have e1 : (1000 * (k : Int) + r) / 1000 = k := by omega
  have e2 : (1000 * (k : Int) + r) % 1000 = r := by omega
  unfold sinQ
  rw [e1, e2, Int.toNat_natCast]
theorem sinQ_zero (k : Nat) : sinQ (1000 * (k : Int) + 0) = tab k := by
  rw [sinQ_at (by omega) (by omega), Int.mul_zero, divr_pos (by omega)]
  have : ((2 * 0 + 1000) / (2 * 1000) : Int) = 0 := by decide
  rw [this, Int.add_zero]
/-- where the sine of an angle lies in the table: the sign, the angle of the first quarter -/
theorem sine_split (a : Int) : ∃ q : Int, (0 ≤ q ∧ q ≤ 90000) ∧ (nrm a = q ∧ sine a = sinQ q ∨ nrm a = 180000 - q ∧ 0 < q ∧ q < 90000 ∧ sine a = sinQ q ∨ nrm a = 180000 + q ∧ sine a = -sinQ q ∨ nrm a = 360000 - q ∧ 0 < q ∧ q < 90000 ∧ sine a = -sinQ q) := by
  obtain ⟨b0, b1⟩ := nrm_bd a
  unfold sine sinH
  by_cases h1 : 180000 ≤ nrm a
  · rw [if_pos h1]
    by_cases h2 : 90000 < nrm a - 180000
    · rw [if_pos h2]
      exact ⟨360000 - nrm a, by omega, .inr (.inr (.inr ⟨by omega, by omega, by omega, by rw [show 180000 - (nrm a - 180000) = 360000 - nrm a from by omega]⟩))⟩
    · rw [if_neg h2]
      exact ⟨nrm a - 180000, by omega, .inr (.inr (.inl ⟨by omega, rfl⟩))⟩
  · rw [if_neg h1]
    by_cases h2 : 90000 < nrm a
    · rw [if_pos h2]
      by_cases h3 : nrm a = 180000
      · omega
      · exact ⟨180000 - nrm a, by omega, .inr (.inl ⟨by omega, by omega, by omega, rfl⟩)⟩
    · rw [if_neg h2]
      exact ⟨nrm a, by omega, .inl ⟨rfl, rfl⟩⟩
theorem tab_step {k : Nat} (h : k < 91) {r : Int} (h0 : 0 ≤ r) (h1 : r < 1000) : 0 ≤ (tab (k + 1) - tab k) * r ∧ (tab (k + 1) - tab k) * r ≤ 17453000 := by
  obtain ⟨t0, t1, t2, t3⟩ := tab_rises k h
  have m1 : (tab (k + 1) - tab k) * r ≤ (tab (k + 1) - tab k) * 1000 := Int.mul_le_mul_of_nonneg_left (by omega) (by omega)
  exact ⟨Int.mul_nonneg (by omega) h0, by omega⟩
end Go.Ks
namespace Go.Proofs.YthjllledhcfnhaaDoor
open Go.RowKit Go.Lib Go.Ks

theorem l02Normal_any (a : Int) (h0 : -9223372036854775808 ≤ a) (h1 : a ≤ 9223372036854775807) (w : World) :
    Calls Tryd.prog 149 #[.int .i64 a] w fun e w' => e = .returned (.int .i64 (nrm a)) ∧ Below w.heap.size w w' := by
  by_cases h : 0 ≤ a
  · obtain ⟨r0, r1⟩ := rem_lt (a := a) (b := 360000) (by omega)
    have E := Lib.hid (by unfold nrm; omega : (a % 360000 + 360000) % 360000 = nrm a)
    go_enter Tryd.func149, Tryd.ntmps149
    go_wp2_with fail
    go_ret
    exact ⟨ret_int E.out, Below.refl _ _⟩
  · obtain ⟨m, rfl⟩ : ∃ m, a = -m := ⟨-a, by omega⟩
    have hm : 0 ≤ m := by omega
    obtain ⟨r0, r1⟩ := rem_lt (a := m) (b := 360000) (by omega)
    have t2 : (-m).tmod 360000 = -(m % 360000) := by rw [Int.neg_tmod, Int.tmod_eq_emod_of_nonneg hm]
    have E := Lib.hid (by unfold nrm; omega : -(m % 360000) % 360000 = nrm (-m))
    have e2 : m.tmod 360000 = m % 360000 := Int.tmod_eq_emod_of_nonneg hm
    go_enter Tryd.func149, Tryd.ntmps149
    go_wp2_with fail
    go_ret
    exact ⟨ret_int E.out, Below.refl _ _⟩

def sinTC : Array Value := (sinT.map (fun x => Value.int .i64 x)).toArray
theorem sinTC_get {k : Nat} (h : k < 91) : sinTC[k]? = some (.int .i64 (tab k)) := by
  have : ∀ k : Nat, k < 91 → sinT[k]? = some (tab k) := by decide
  simp [sinTC, this k h]
set_option maxRecDepth 100000 in
set_option maxHeartbeats 8000000 in
theorem l02Table_any (w : World) :
    Calls Tryd.prog 150 #[] w fun e w' => e = .returned (.slice (some ⟨w.heap.size, 0, none⟩) 91 91) ∧ Below w.heap.size w w' ∧ Blk w' w.heap.size 2 sinTC := by
  go_enter Tryd.func150, Tryd.ntmps150
  go_wp2_with fail
  go_ret
  refine ⟨rfl, ?_, Blk.new _ _ _⟩
  repeat (first | with_reducible exact Below.refl _ _ | with_reducible assumption | with_reducible refine Below.setCell ?_ (by simp <;> omega) _ | with_reducible refine Below.alloc ?_ (by simp <;> omega) _ | with_reducible refine Below.drew ?_)

set_option maxHeartbeats 4000000 in
theorem l02Sine_any (a : Int) (h0 : -9223372036854775808 ≤ a) (h1 : a ≤ 9223372036854775807) (w : World) :
    Calls Tryd.prog 116 #[.int .i64 a] w fun e w' => e = .returned (.int .i64 (sine a)) ∧ Below w.heap.size w w' := by
  obtain ⟨q, ⟨q0, q1⟩, hq⟩ := sine_split a
  obtain ⟨k, hk⟩ := Int.eq_ofNat_of_zero_le (by omega : 0 ≤ q / 1000)
  obtain ⟨r, hr⟩ : ∃ r, r = q % 1000 := ⟨_, rfl⟩
  have hr0 : 0 ≤ r := by omega
  have hr1 : r < 1000 := by omega
  have hkk : k < 91 := by omega
  have hkr : (k : Int) < 90 ∨ r = 0 := by omega
  obtain ⟨t0, t1, t2, t3⟩ := tab_rises k hkk
  obtain ⟨m0, m1⟩ := tab_step hkk hr0 hr1
  obtain ⟨d0, d1⟩ := divr_bd (a := (tab (k + 1) - tab k) * r) (b := 1000) (m := 17453000) (by omega) (by omega) (by omega)
  have d2 := divr_nonneg (b := 1000) (by omega) m0
  have hqq : q = 1000 * (k : Int) + r := by omega
  have EA := sinQ_at (k := k) hr0 hr1
  have EB := sinQ_zero k
  rw [← hqq] at EA
  have hr' : q % 1000 = r := hr.symm
  have HK := Lib.hid hk
  have HR := Lib.hid hr'
  have HQ := Lib.hid hqq
  have E1 := Lib.hid EA
  have E0 := Lib.hid EB
  clear hr hk hr' hqq EA EB
  rcases hq with ⟨e, es⟩ | ⟨e, p0, p1, es⟩ | ⟨e, es⟩ | ⟨e, p0, p1, es⟩
  all_goals
    have ES := Lib.hid es
    clear es
    go_enter Tryd.func116, Tryd.ntmps116
    go_wp2_with fail
    refine (l02Normal_any _ h0 h1 _).mono ?_
    rintro e w1 ⟨rfl, hb1⟩
    rw [e]
    go_wp2_with fail
    refine (l02Table_any _).mono ?_
    rintro e2 w2 ⟨rfl, hb2, hT⟩
    have hb12 := hb1.trans (hb2.mono hb1.size)
    first
    | rw [show (180000 - (180000 - q) : Int) = q from by omega]
    | rw [show (180000 + q - 180000 : Int) = q from by omega]
    | rw [show (180000 - (360000 - q - 180000) : Int) = q from by omega]
    | skip
    have hk := HK.out
    have hr' := HR.out
    have c0 : w2.cell? ⟨w1.heap.size, k, none⟩ = some (.int .i64 (tab k)) := by rw [hT.cell]; exact sinTC_get hkk
    have hlt := hT.lt
    by_cases hr2 : 0 < r
    · have c1 : w2.cell? ⟨w1.heap.size, k + 1, none⟩ = some (.int .i64 (tab (k + 1))) := by rw [hT.cell]; exact sinTC_get (by omega)
      have hk90 : (k : Int) < 90 := by omega
      go_wp2_with fail
      refine wp_region_ext (by kernel_rfl) (by kernel_rfl) ?_
      repeat (go_big_quiet_step ((first | (go_at_call 115; exact quiet_ext (l01Div_any _ _ (by omega) (by omega) (by omega) (by omega) _)))))
      refine wpQuiet_nil ?_
      intro e1
      have hb3 := hb12.trans (e1.below.mono hb12.size)
      go_wp2_with fail
      go_ret
      exact ⟨ret_int (by rw [ES.out, E1.out]), hb3⟩
    · obtain rfl : r = 0 := by omega
      go_wp2_with fail
      go_ret
      exact ⟨ret_int (by rw [ES.out, HQ.out, E0.out]), hb12⟩
end Go.Proofs.YthjllledhcfnhaaDoor
