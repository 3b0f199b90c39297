/- Cosines and the angle of a direction: the reference's functions. Conditions: the numbers are in range. -/
import Derived.Test.YthjllledhcfnhaaGreatDoorMinMax
import Derived.Test.YthjllledhcfnhaaGreatDoorRound
import Derived.Test.YthjllledhcfnhaaGreatDoorTrigMath
namespace Go.Ks
theorem sinQ_at {k : Nat} {r : Int} (h0 : 0 ≤ r) (h1 : r < 1000) : sinQ (1000 * (k : Int) + r) = tab k + divr ((tab (k + 1) - tab k) * r) 1000 := by
  have e1 : (1000 * (k : Int) + r) / 1000 = k := by omega
  have e2 : (1000 * (k : Int) + r) % 1000 = r := by omega
  unfold sinQ
  rw [e1, e2, Int.toNat_natCast]
theorem sinQ_zero (k : Nat) : sinQ (1000 * (k : Int) + 0) = tab k := by
  rw [sinQ_at (by omega) (by omega), Int.mul_zero, divr_pos (by omega)]
  have : ((2 * 0 + 1000) / (2 * 1000) : Int) = 0 := by decide
  rw [this, Int.add_zero]
/-- where the sine of an angle lies in the table: the sign, the angle of the first quarter -/
theorem sine_split (a : Int) : ∃ q : Int, (0 ≤ q ∧ q ≤ 90000) ∧ (nrm a = q ∧ sine a = sinQ q ∨ nrm a = 180000 - q ∧ 0 < q ∧ q < 90000 ∧ sine a = sinQ q ∨ nrm a = 180000 + q ∧ sine a = -sinQ q ∨ nrm a = 360000 - q ∧ 0 < q ∧ q < 90000 ∧ sine a = -sinQ q) := by
  obtain ⟨b0, b1⟩ := nrm_bd a
  unfold sine sinH
  by_cases h1 : 180000 ≤ nrm a
  · rw [if_pos h1]
    by_cases h2 : 90000 < nrm a - 180000
    · rw [if_pos h2]
      exact ⟨360000 - nrm a, by omega, .inr (.inr (.inr ⟨by omega, by omega, by omega, by rw [show 180000 - (nrm a - 180000) = 360000 - nrm a from by omega]⟩))⟩
    · rw [if_neg h2]
      exact ⟨nrm a - 180000, by omega, .inr (.inr (.inl ⟨by omega, rfl⟩))⟩
  · rw [if_neg h1]
    by_cases h2 : 90000 < nrm a
    · rw [if_pos h2]
      by_cases h3 : nrm a = 180000
      · omega
      · exact ⟨180000 - nrm a, by omega, .inr (.inl ⟨by omega, by omega, by omega, rfl⟩)⟩
    · rw [if_neg h2]
      exact ⟨nrm a, by omega, .inl ⟨rfl, rfl⟩⟩
theorem tab_step {k : Nat} (h : k < 91) {r : Int} (h0 : 0 ≤ r) (h1 : r < 1000) : 0 ≤ (tab (k + 1) - tab k) * r ∧ (tab (k + 1) - tab k) * r ≤ 17453000 := by
  obtain ⟨t0, t1, t2, t3⟩ := tab_rises k h
  have m1 : (tab (k + 1) - tab k) * r ≤ (tab (k + 1) - tab k) * 1000 := Int.mul_le_mul_of_nonneg_left (by omega) (by omega)
  exact ⟨Int.mul_nonneg (by omega) h0, by omega⟩
end Go.Ks
namespace Go.Proofs.YthjllledhcfnhaaGreatDoor
open Go.RowKit Go.Lib Go.Ks

theorem l02Normal_any (a : Int) (h0 : -9223372036854775808 ≤ a) (h1 : a ≤ 9223372036854775807) (w : World) :
    Calls Tryz.prog 94 #[.int .i64 a] w fun e w' => e = .returned (.int .i64 (nrm a)) ∧ Below w.heap.size w w' := by
  by_cases h : 0 ≤ a
  · obtain ⟨r0, r1⟩ := rem_lt (a := a) (b := 360000) (by omega)
    have E := Lib.hid (by unfold nrm; omega : (a % 360000 + 360000) % 360000 = nrm a)
    go_enter Tryz.func94, Tryz.ntmps94
    go_wp2_with fail
    go_ret
    exact ⟨ret_int E.out, Below.refl _ _⟩
  · obtain ⟨m, rfl⟩ : ∃ m, a = -m := ⟨-a, by omega⟩
    have hm : 0 ≤ m := by omega
    obtain ⟨r0, r1⟩ := rem_lt (a := m) (b := 360000) (by omega)
    have t2 : (-m).tmod 360000 = -(m % 360000) := by rw [Int.neg_tmod, Int.tmod_eq_emod_of_nonneg hm]
    have E := Lib.hid (by unfold nrm; omega : -(m % 360000) % 360000 = nrm (-m))
    have e2 : m.tmod 360000 = m % 360000 := Int.tmod_eq_emod_of_nonneg hm
    go_enter Tryz.func94, Tryz.ntmps94
    go_wp2_with fail
    go_ret
    exact ⟨ret_int E.out, Below.refl _ _⟩

def sinTC : Array Value := (sinT.map (fun x => Value.int .i64 x)).toArray
theorem sinTC_get {k : Nat} (h : k < 91) : sinTC[k]? = some (.int .i64 (tab k)) := by
  have : ∀ k : Nat, k < 91 → sinT[k]? = some (tab k) := by decide
  simp [sinTC, this k h]
set_option maxRecDepth 100000 in
set_option maxHeartbeats 8000000 in
theorem l02Table_any (w : World) :
    Calls Tryz.prog 149 #[] w fun e w' => e = .returned (.slice (some ⟨w.heap.size, 0, none⟩) 91 91) ∧ Below w.heap.size w w' ∧ Blk w' w.heap.size 2 sinTC := by
  go_enter Tryz.func149, Tryz.ntmps149
  go_wp2_with fail
  go_ret
  refine ⟨rfl, ?_, Blk.new _ _ _⟩
  repeat (first | with_reducible exact Below.refl _ _ | with_reducible assumption | with_reducible refine Below.setCell ?_ (by simp <;> omega) _ | with_reducible refine Below.alloc ?_ (by simp <;> omega) _ | with_reducible refine Below.drew ?_)

set_option maxHeartbeats 4000000 in
theorem l02Sine_any (a : Int) (h0 : -9223372036854775808 ≤ a) (h1 : a ≤ 9223372036854775807) (w : World) :
    Calls Tryz.prog 124 #[.int .i64 a] w fun e w' => e = .returned (.int .i64 (sine a)) ∧ Below w.heap.size w w' := by
  obtain ⟨q, ⟨q0, q1⟩, hq⟩ := sine_split a
  obtain ⟨k, hk⟩ := Int.eq_ofNat_of_zero_le (by omega : 0 ≤ q / 1000)
  obtain ⟨r, hr⟩ : ∃ r, r = q % 1000 := ⟨_, rfl⟩
  have hr0 : 0 ≤ r := by omega
  have hr1 : r < 1000 := by omega
  have hkk : k < 91 := by omega
  have hkr : (k : Int) < 90 ∨ r = 0 := by omega
  obtain ⟨t0, t1, t2, t3⟩ := tab_rises k hkk
  obtain ⟨m0, m1⟩ := tab_step hkk hr0 hr1
  obtain ⟨d0, d1⟩ := divr_bd (a := (tab (k + 1) - tab k) * r) (b := 1000) (m := 17453000) (by omega) (by omega) (by omega)
  have d2 := divr_nonneg (b := 1000) (by omega) m0
  have hqq : q = 1000 * (k : Int) + r := by omega
  have EA := sinQ_at (k := k) hr0 hr1
  have EB := sinQ_zero k
  rw [← hqq] at EA
  have hr' : q % 1000 = r := hr.symm
  have HK := Lib.hid hk
  have HR := Lib.hid hr'
  have HQ := Lib.hid hqq
  have E1 := Lib.hid EA
  have E0 := Lib.hid EB
  clear hr hk hr' hqq EA EB
  rcases hq with ⟨e, es⟩ | ⟨e, p0, p1, es⟩ | ⟨e, es⟩ | ⟨e, p0, p1, es⟩
  all_goals
    have ES := Lib.hid es
    clear es
    go_enter Tryz.func124, Tryz.ntmps124
    go_wp2_with fail
    refine (l02Normal_any _ h0 h1 _).mono ?_
    rintro e w1 ⟨rfl, hb1⟩
    rw [e]
    go_wp2_with fail
    refine (l02Table_any _).mono ?_
    rintro e2 w2 ⟨rfl, hb2, hT⟩
    have hb12 := hb1.trans (hb2.mono hb1.size)
    first
    | rw [show (180000 - (180000 - q) : Int) = q from by omega]
    | rw [show (180000 + q - 180000 : Int) = q from by omega]
    | rw [show (180000 - (360000 - q - 180000) : Int) = q from by omega]
    | skip
    have hk := HK.out
    have hr' := HR.out
    have c0 : w2.cell? ⟨w1.heap.size, k, none⟩ = some (.int .i64 (tab k)) := by rw [hT.cell]; exact sinTC_get hkk
    have hlt := hT.lt
    by_cases hr2 : 0 < r
    · have c1 : w2.cell? ⟨w1.heap.size, k + 1, none⟩ = some (.int .i64 (tab (k + 1))) := by rw [hT.cell]; exact sinTC_get (by omega)
      have hk90 : (k : Int) < 90 := by omega
      go_wp2_with fail
      refine wp_region_ext (by kernel_rfl) (by kernel_rfl) ?_
      repeat (go_big_quiet_step ((first | (go_at_call 123; exact quiet_ext (l01Div_any _ _ (by omega) (by omega) (by omega) (by omega) _)))))
      refine wpQuiet_nil ?_
      intro e1
      have hb3 := hb12.trans (e1.below.mono hb12.size)
      go_wp2_with fail
      go_ret
      exact ⟨ret_int (by rw [ES.out, E1.out]), hb3⟩
    · obtain rfl : r = 0 := by omega
      go_wp2_with fail
      go_ret
      exact ⟨ret_int (by rw [ES.out, HQ.out, E0.out]), hb12⟩
end Go.Proofs.YthjllledhcfnhaaGreatDoor
namespace Go.Ks
section
variable {y x : Int}
theorem arcB_gt (h : iabs x < iabs y) : arcB y x = 90000 - arcE (min (iabs x) (iabs y)) (max (iabs x) (iabs y)) := if_pos h
theorem arcB_le (h : ¬ iabs x < iabs y) : arcB y x = arcE (min (iabs x) (iabs y)) (max (iabs x) (iabs y)) := if_neg h
theorem arct_pp (hx : 0 ≤ x) (hy : 0 ≤ y) : arct y x = arcB y x := if_pos ⟨hx, hy⟩
theorem arct_np (hx : ¬ 0 ≤ x) (hy : 0 ≤ y) : arct y x = 180000 - arcB y x := by unfold arct; rw [if_neg (fun h => hx h.1), if_pos hy]
theorem arct_nn (hx : ¬ 0 ≤ x) (hy : ¬ 0 ≤ y) : arct y x = 180000 + arcB y x := by unfold arct; rw [if_neg (fun h => hx h.1), if_neg hy, if_pos (by omega)]
theorem arct_pn (hx : 0 ≤ x) (hy : ¬ 0 ≤ y) : arct y x = nrm (-arcB y x) := by unfold arct; rw [if_neg (fun h => hy h.2), if_neg hy, if_neg (by omega)]
theorem iabs_bd {a m : Int} (h1 : -m ≤ a) (h2 : a ≤ m) : 0 ≤ iabs a ∧ iabs a ≤ m := by unfold iabs; split <;> omega
/-- a step of the search -/
theorem arc_step {u v : Int} {lo : Int} {n : Nat} (h : 0 < n) : (arcP u v (lo + ((n / 2 : Nat) : Int)) = true → bsr (arcP u v) lo n = bsr (arcP u v) lo (n / 2)) ∧ (arcP u v (lo + ((n / 2 : Nat) : Int)) = false → bsr (arcP u v) lo n = bsr (arcP u v) (lo + ((n / 2 : Nat) : Int) + 1) (n - n / 2 - 1)) := ⟨fun hp => bsr_yes h hp, fun hp => bsr_no h hp⟩
theorem arcP_iff {u v m : Int} : arcP u v m = true ↔ cosi m * u ≤ sine m * v := by unfold arcP; exact decide_eq_true_iff
theorem arcP_no {u v m : Int} : arcP u v m = false ↔ ¬ cosi m * u ≤ sine m * v := by unfold arcP; exact decide_eq_false_iff_not
theorem arc_mul {s u : Int} (h1 : -1000000 ≤ s ∧ s ≤ 1000000) (h2 : 0 ≤ u ∧ u ≤ 1000000000000) : -1000000000000000000 ≤ s * u ∧ s * u ≤ 1000000000000000000 := by
  have := mul_bd (a := s) (b := u) (m := 1000000) (n := 1000000000000) h1.1 h1.2 h2.1 h2.2 (by omega)
  omega
end
end Go.Ks
namespace Go.Proofs.YthjllledhcfnhaaGreatDoor
open Go.RowKit Go.Lib Go.Ks

theorem l02Cosine_any (a : Int) (h0 : -9223372036854775808 ≤ a) (h1 : a ≤ 9223372036854775807) (w : World) :
    Calls Tryz.prog 122 #[.int .i64 a] w fun e w' => e = .returned (.int .i64 (cosi a)) ∧ Below w.heap.size w w' := by
  obtain ⟨b0, b1⟩ := nrm_bd a
  go_enter Tryz.func122, Tryz.ntmps122
  go_wp2_with fail
  refine (l02Normal_any _ h0 h1 _).mono ?_
  rintro e w1 ⟨rfl, hb1⟩
  go_wp2_with fail
  refine (l02Sine_any _ (by omega) (by omega) _).mono ?_
  rintro e w2 ⟨rfl, hb2⟩
  go_wp2_with fail
  go_ret
  exact ⟨rfl, hb1.trans (hb2.mono hb1.size)⟩
theorem l02Abs_eq (a : Int) (h0 : -9223372036854775807 ≤ a) (h1 : a ≤ 9223372036854775807) (w : World) :
    Calls Tryz.prog 151 #[.int .i64 a] w fun e w' => e = .returned (.int .i64 (iabs a)) ∧ w = w' := by
  by_cases h : a < 0
  · have E := Lib.hid (iabs_neg h)
    go_enter Tryz.func151, Tryz.ntmps151
    go_wp2_with fail
    go_ret
    exact ⟨ret_int E.out.symm, rfl⟩
  · have E := Lib.hid (iabs_pos (n := a) (by omega))
    go_enter Tryz.func151, Tryz.ntmps151
    go_wp2_with fail
    go_ret
    exact ⟨ret_int E.out.symm, rfl⟩
set_option maxHeartbeats 4000000 in
theorem l02Arc_any (y x : Int) (hy : -1000000000000 ≤ y ∧ y ≤ 1000000000000) (hx : -1000000000000 ≤ x ∧ x ≤ 1000000000000) (w : World) :
    Calls Tryz.prog 128 #[.int .i64 y, .int .i64 x] w fun e w' => e = .returned (.int .i64 (arct y x)) ∧ Below w.heap.size w w' := by
  obtain ⟨y0, y1⟩ := hy
  obtain ⟨x0, x1⟩ := hx
  have ax := iabs_bd x0 x1
  have ay := iabs_bd y0 y1
  obtain ⟨ax0, ax1⟩ := ax
  obtain ⟨ay0, ay1⟩ := ay
  have hbb := arcB_bd y x
  obtain ⟨hbb0, hbb1⟩ := hbb
  have HU := Lib.hid (arcB_gt (y := y) (x := x))
  have HV := Lib.hid (arcB_le (y := y) (x := x))
  have hee := arcE_bd (min (iabs x) (iabs y)) (max (iabs x) (iabs y))
  have hR : arcE (min (iabs x) (iabs y)) (max (iabs x) (iabs y)) = bsr (arcP (min (iabs x) (iabs y)) (max (iabs x) (iabs y))) 0 45000 := rfl
  obtain ⟨u, hu⟩ : ∃ u, u = min (iabs x) (iabs y) := ⟨_, rfl⟩
  obtain ⟨v, hv⟩ : ∃ v, v = max (iabs x) (iabs y) := ⟨_, rfl⟩
  have hu0 : 0 ≤ u ∧ u ≤ 1000000000000 := by omega
  have hv0 : 0 ≤ v ∧ v ≤ 1000000000000 := by omega
  rw [← hu, ← hv] at HU HV hee hR
  obtain ⟨R, hRR⟩ : ∃ R, R = arcE u v := ⟨_, rfl⟩
  rw [← hRR] at HU HV hee hR
  clear hRR
  obtain ⟨r0, r1⟩ := hee
  have HR := Lib.hid hR
  have HU0 := Lib.hid hu0
  have HV0 := Lib.hid hv0
  clear hR hu0 hv0
  have HUU := Lib.hid hu
  have HVV := Lib.hid hv
  clear hu hv
  go_enter Tryz.func128, Tryz.ntmps128
  go_wp2_with fail
  refine (l02Abs_eq _ (by omega) (by omega) _).mono ?_
  rintro e w1 ⟨rfl, rfl⟩
  go_wp2_with fail
  refine (l02Abs_eq _ (by omega) (by omega) _).mono ?_
  rintro e w1 ⟨rfl, rfl⟩
  go_wp2_with fail
  refine (l00Min_eq _ _ _).mono ?_
  rintro e w1 ⟨rfl, rfl⟩
  rw [← HUU.out]
  go_wp2_with fail
  refine (l02Abs_eq _ (by omega) (by omega) _).mono ?_
  rintro e w1 ⟨rfl, rfl⟩
  go_wp2_with fail
  refine (l02Abs_eq _ (by omega) (by omega) _).mono ?_
  rintro e w1 ⟨rfl, rfl⟩
  go_wp2_with fail
  refine (l00Max_eq _ _ _).mono ?_
  rintro e w1 ⟨rfl, rfl⟩
  rw [← HVV.out]
  clear HUU HVV
  go_wp2_with fail
  go_loopw [7, 8] (fun a b wr => ∃ (lo : Int) (n : Nat), 0 ≤ lo ∧ lo + (n : Int) ≤ 45000 ∧ a = .int .i64 lo ∧ b = .int .i64 (lo + (n : Int)) ∧ bsr (arcP u v) lo n = R ∧ Below w.heap.size w wr) (fun a b _ => (intOf b - intOf a).toNat)
  case atStart => exact ⟨0, 45000, by omega, by omega, rfl, rfl, HR.out.symm, Below.refl _ _⟩
  case round =>
    obtain ⟨lo, n, l0, l1, rfl, rfl, hbs, hbl⟩ := hrel
    have BS := Lib.hid hbs
    clear hbs
    by_cases hn : 0 < n
    · have hlt : lo < lo + (n : Int) := by omega
      obtain ⟨m, hm⟩ : ∃ m : Int, m = lo + ((n / 2 : Nat) : Int) := ⟨_, rfl⟩
      have hmm : (lo + (lo + (n : Int))) / 2 = m := by omega
      have ST := Lib.hid (arc_step (u := u) (v := v) (lo := lo) hn)
      rw [← hm] at ST
      have m0 : 0 ≤ m := by omega
      have m1 : m ≤ 45000 := by omega
      have HM := Lib.hid hm
      clear hm
      obtain ⟨s0, s1⟩ := arc_mul (sine_bd m) HV0.out
      obtain ⟨c0, c1⟩ := arc_mul (cosi_bd m) HU0.out
      by_cases hp : cosi m * u ≤ sine m * v
      · have HP := Lib.hid (arcP_iff.2 hp)
        have hd := decide_eq_true hp
        go_wp2_with fail
        refine (l02Sine_any _ (by omega) (by omega) _).mono ?_
        rintro e w1 ⟨rfl, hb1⟩
        go_wp2_with fail
        refine (l02Cosine_any _ (by omega) (by omega) _).mono ?_
        rintro e w2 ⟨rfl, hb2⟩
        have hb3 := hbl.trans ((hb1.trans (hb2.mono hb1.size)).mono hbl.size)
        go_wp2_with fail
        go_roundw
        case rel => exact ⟨lo, n / 2, by omega, by omega, rfl, by rw [HM.out], (ST.out.1 HP.out).symm.trans BS.out, hb3⟩
        case measure =>
          have := HM.out
          simp [intOf]; omega
      · have HP := Lib.hid (arcP_no.2 hp)
        have hd := decide_eq_false hp
        go_wp2_with fail
        refine (l02Sine_any _ (by omega) (by omega) _).mono ?_
        rintro e w1 ⟨rfl, hb1⟩
        go_wp2_with fail
        refine (l02Cosine_any _ (by omega) (by omega) _).mono ?_
        rintro e w2 ⟨rfl, hb2⟩
        have hb3 := hbl.trans ((hb1.trans (hb2.mono hb1.size)).mono hbl.size)
        go_wp2_with fail
        go_roundw
        case rel =>
          have := HM.out
          exact ⟨m + 1, n - n / 2 - 1, by omega, by omega, rfl, ret_num (by omega), by rw [HM.out]; have h := ST.out.2 HP.out; rw [HM.out] at h; exact h.symm.trans BS.out, hb3⟩
        case measure =>
          have := HM.out
          simp [intOf]; omega
    · obtain rfl : n = 0 := by omega
      have hlo : lo = R := by rw [← BS.out]; exact (bsr_zero _ _).symm
      subst hlo
      clear BS HR HU0 HV0
      obtain ⟨B, hB⟩ : ∃ B, B = arcB y x := ⟨_, rfl⟩
      rw [← hB] at HU HV hbb0 hbb1
      have PP := Lib.hid (arct_pp (y := y) (x := x))
      have NP := Lib.hid (arct_np (y := y) (x := x))
      have NN := Lib.hid (arct_nn (y := y) (x := x))
      have PN := Lib.hid (arct_pn (y := y) (x := x))
      rw [← hB] at PP NP NN PN
      clear hB
      by_cases g : iabs x < iabs y
      · have e := HU.out (by omega)
        by_cases gx : 0 ≤ x
        · by_cases gy : 0 ≤ y
          · have E := Lib.hid (PP.out gx gy)
            have EE := Lib.hid e
            clear e
            go_wp2_with fail
            refine (l02Abs_eq _ (by omega) (by omega) _).mono ?_
            rintro e w1 ⟨rfl, rfl⟩
            go_wp2_with fail
            refine (l02Abs_eq _ (by omega) (by omega) _).mono ?_
            rintro e w1 ⟨rfl, rfl⟩
            go_wp2_with fail
            go_ret
            exact ⟨ret_int (by rw [E.out, EE.out]), hbl⟩
          · have E := Lib.hid (PN.out gx gy)
            have EE := Lib.hid e
            clear e
            go_wp2_with fail
            refine (l02Abs_eq _ (by omega) (by omega) _).mono ?_
            rintro e w1 ⟨rfl, rfl⟩
            go_wp2_with fail
            refine (l02Abs_eq _ (by omega) (by omega) _).mono ?_
            rintro e w1 ⟨rfl, rfl⟩
            go_wp2_with fail
            refine (l02Normal_any _ (by omega) (by omega) _).mono ?_
            rintro e w1 ⟨rfl, hb1⟩
            go_wp2_with fail
            go_ret
            exact ⟨ret_int (by rw [E.out, EE.out]), hbl.trans (hb1.mono hbl.size)⟩
        · by_cases gy : 0 ≤ y
          · have E := Lib.hid (NP.out gx gy)
            have EE := Lib.hid e
            clear e
            go_wp2_with fail
            refine (l02Abs_eq _ (by omega) (by omega) _).mono ?_
            rintro e w1 ⟨rfl, rfl⟩
            go_wp2_with fail
            refine (l02Abs_eq _ (by omega) (by omega) _).mono ?_
            rintro e w1 ⟨rfl, rfl⟩
            go_wp2_with fail
            go_ret
            exact ⟨ret_int (by rw [E.out, EE.out]), hbl⟩
          · have E := Lib.hid (NN.out gx gy)
            have EE := Lib.hid e
            clear e
            go_wp2_with fail
            refine (l02Abs_eq _ (by omega) (by omega) _).mono ?_
            rintro e w1 ⟨rfl, rfl⟩
            go_wp2_with fail
            refine (l02Abs_eq _ (by omega) (by omega) _).mono ?_
            rintro e w1 ⟨rfl, rfl⟩
            go_wp2_with fail
            go_ret
            exact ⟨ret_int (by rw [E.out, EE.out]), hbl⟩
      · have e := HV.out (by omega)
        subst e
        by_cases gx : 0 ≤ x
        · by_cases gy : 0 ≤ y
          · have E := Lib.hid (PP.out gx gy)
            go_wp2_with fail
            refine (l02Abs_eq _ (by omega) (by omega) _).mono ?_
            rintro e w1 ⟨rfl, rfl⟩
            go_wp2_with fail
            refine (l02Abs_eq _ (by omega) (by omega) _).mono ?_
            rintro e w1 ⟨rfl, rfl⟩
            go_wp2_with fail
            go_ret
            exact ⟨ret_int E.out.symm, hbl⟩
          · have E := Lib.hid (PN.out gx gy)
            go_wp2_with fail
            refine (l02Abs_eq _ (by omega) (by omega) _).mono ?_
            rintro e w1 ⟨rfl, rfl⟩
            go_wp2_with fail
            refine (l02Abs_eq _ (by omega) (by omega) _).mono ?_
            rintro e w1 ⟨rfl, rfl⟩
            go_wp2_with fail
            refine (l02Normal_any _ (by omega) (by omega) _).mono ?_
            rintro e w1 ⟨rfl, hb1⟩
            go_wp2_with fail
            go_ret
            exact ⟨ret_int E.out.symm, hbl.trans (hb1.mono hbl.size)⟩
        · by_cases gy : 0 ≤ y
          · have E := Lib.hid (NP.out gx gy)
            go_wp2_with fail
            refine (l02Abs_eq _ (by omega) (by omega) _).mono ?_
            rintro e w1 ⟨rfl, rfl⟩
            go_wp2_with fail
            refine (l02Abs_eq _ (by omega) (by omega) _).mono ?_
            rintro e w1 ⟨rfl, rfl⟩
            go_wp2_with fail
            go_ret
            exact ⟨ret_int E.out.symm, hbl⟩
          · have E := Lib.hid (NN.out gx gy)
            go_wp2_with fail
            refine (l02Abs_eq _ (by omega) (by omega) _).mono ?_
            rintro e w1 ⟨rfl, rfl⟩
            go_wp2_with fail
            refine (l02Abs_eq _ (by omega) (by omega) _).mono ?_
            rintro e w1 ⟨rfl, rfl⟩
            go_wp2_with fail
            go_ret
            exact ⟨ret_int E.out.symm, hbl⟩
end Go.Proofs.YthjllledhcfnhaaGreatDoor
