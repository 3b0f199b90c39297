/- Angles, sines and the angle of a direction: the program's functions. Conditions: the numbers are in range, the variable sines holds its table. -/
import Derived.Test.YthjllledhcfnhaaGreatDoorArcSpec
import Derived.Test.YthjllledhcfnhaaGreatDoorSmallEq
import Derived.Test.YthjllledhcfnhaaGreatDoorVecMath
import Derived.Test.YthjllledhcfnhaaGreatDoorOwn
import Derived.Deep.DeepCutAuto
namespace Go.Proofs.YthjllledhcfnhaaGreatDoor
open Go.RowKit Go.Lib Go.Ks

/-- the table of sines lies in the program's variable -/
def Tab (w : World) : Prop := 0 < w.heap.size ∧ ∀ k, k < 91 → w.cell? ⟨0, k, none⟩ = some (.int .i64 (tab k))
theorem Tab.below {w w' : World} (h : Tab w) (hb : Below w.heap.size w w') : Tab w' := ⟨Nat.lt_of_lt_of_le h.1 hb.size, fun k hk => (hb.cell (p := ⟨0, k, none⟩) h.1).trans (h.2 k hk)⟩

theorem normalAngle_eq (a : Int) (h0 : -9223372036854775808 ≤ a) (h1 : a ≤ 9223372036854775807) (w : World) :
    Calls Tryz.prog 66 #[.int .i64 a] w fun e w' => e = .returned (.int .i64 (nrm a)) ∧ w = w' := by
  by_cases h : 0 ≤ a
  · obtain ⟨r0, r1⟩ := rem_lt (a := a) (b := 360000) (by omega)
    have E := Lib.hid (by unfold nrm; omega : a % 360000 = nrm a)
    go_enter Tryz.func66, Tryz.ntmps66
    go_wp2_with fail
    go_ret
    exact ⟨ret_int E.out, rfl⟩
  · obtain ⟨m, rfl⟩ : ∃ m, a = -m := ⟨-a, by omega⟩
    have hm : 0 ≤ m := by omega
    obtain ⟨r0, r1⟩ := rem_lt (a := m) (b := 360000) (by omega)
    have t2 : (-m).tmod 360000 = -(m % 360000) := by rw [Int.neg_tmod, Int.tmod_eq_emod_of_nonneg hm]
    have e2 : m.tmod 360000 = m % 360000 := Int.tmod_eq_emod_of_nonneg hm
    by_cases hz : m % 360000 = 0
    · have E := Lib.hid (by unfold nrm; omega : (0 : Int) = nrm (-m))
      go_enter Tryz.func66, Tryz.ntmps66
      go_wp2_with fail
      go_ret
      exact ⟨ret_int E.out, rfl⟩
    · have E := Lib.hid (by unfold nrm; omega : -(m % 360000) + 360000 = nrm (-m))
      have hp : 0 < m % 360000 := by omega
      go_enter Tryz.func66, Tryz.ntmps66
      go_wp2_with fail
      go_ret
      exact ⟨ret_int E.out, rfl⟩

theorem blend_sin {k : Nat} {r : Int} (h0 : 0 ≤ r) (h1 : r < 1000) : line ((k : Int) * 1000) (tab k) (((k : Int) + 1) * 1000) (tab (k + 1)) (1000 * (k : Int) + r) = sinQ (1000 * (k : Int) + r) := by
  rw [sinQ_at h0 h1]
  unfold line
  by_cases hr : r = 0
  · subst hr
    rw [if_pos (by omega), Int.mul_zero, divr_pos (by omega)]
    have : ((2 * 0 + 1000) / (2 * 1000) : Int) = 0 := by decide
    rw [this, Int.add_zero]
  · rw [if_neg (by omega), if_neg (by omega), show 1000 * (k : Int) + r - (k : Int) * 1000 = r from by omega, show ((k : Int) + 1) * 1000 - (k : Int) * 1000 = 1000 from by omega]
set_option maxHeartbeats 4000000 in
/-- half a turn -/
theorem sineHalf_any (a : Int) (h0 : -9223372036854775808 ≤ a) (h1 : a ≤ 9223372036854775807) (hh : nrm a < 180000) (w : World) (hT : Tab w) :
    Calls Tryz.prog 58 #[.int .i64 a] w fun e w' => e = .returned (.int .i64 (sine a)) ∧ Below w.heap.size w w' := by
  obtain ⟨q, ⟨q0, q1⟩, hq⟩ := sine_split a
  obtain ⟨k, hk⟩ := Int.eq_ofNat_of_zero_le (by omega : 0 ≤ q / 1000)
  obtain ⟨r, hr⟩ : ∃ r, r = q % 1000 := ⟨_, rfl⟩
  have hr0 : 0 ≤ r := by omega
  have hr1 : r < 1000 := by omega
  have hkk : k < 91 := by omega
  obtain ⟨t0, t1, t2, t3⟩ := tab_rises k hkk
  have hqq : q = 1000 * (k : Int) + r := by omega
  have EL := blend_sin (k := k) hr0 hr1
  have EB := sinQ_zero k
  rw [← hqq] at EL
  have HK := Lib.hid hk
  have HQ := Lib.hid hqq
  have E1 := Lib.hid EL
  have E0 := Lib.hid EB
  have hkr : (k : Int) < 90 ∨ (k = 90 ∧ r = 0) := by omega
  have c0 := hT.2 k hkk
  have hlt := hT.1
  have hq' : nrm a = q ∧ sine a = sinQ q ∨ nrm a = 180000 - q ∧ 0 < q ∧ q < 90000 ∧ sine a = sinQ q := by
    rcases hq with h | h | ⟨e, es⟩ | ⟨e, p0, p1, es⟩
    · exact .inl h
    · exact .inr h
    · omega
    · omega
  clear hr hk hqq EL EB hq
  rcases hq' with ⟨e, es⟩ | ⟨e, p0, p1, es⟩
  all_goals
    have ES := Lib.hid es
    clear es
    go_enter Tryz.func58, Tryz.ntmps58
    go_wp2_with fail
    refine (normalAngle_eq _ h0 h1 _).mono ?_
    rintro e w1 ⟨rfl, rfl⟩
    rw [e]
    go_upto_region 6 with fail
    first
    | rw [show (180000 - (180000 - q) : Int) = q from by omega]
    | skip
    have hk := HK.out
    by_cases hk9 : (k : Int) < 90
    · have c1 := hT.2 (k + 1) (by omega)
      have hne : ((k : Int) == 90) = false := by simp; omega
      have ok : LineOk ((k : Int) * 1000) (tab k) (((k : Int) + 1) * 1000) (tab (k + 1)) q := ⟨⟨by omega, by omega⟩, ⟨by omega, by omega⟩, ⟨by omega, by omega⟩, ⟨by omega, by omega⟩, by omega, by omega⟩
      have OK := Lib.hid ok
      clear ok
      go_wp2_with fail
      refine wp_region_ext (by kernel_rfl) (by kernel_rfl) ?_
      repeat (go_big_quiet_step ((first | (go_at_call 75; exact quiet_ext (blend_any _ _ _ _ _ OK.out _)))))
      refine wpQuiet_nil ?_
      intro e1
      have hb3 := e1.below
      go_wp2_with fail
      go_ret
      exact ⟨ret_int (by rw [ES.out, E1.out]), hb3⟩
    · obtain ⟨rfl, rfl⟩ : k = 90 ∧ r = 0 := by omega
      go_wp2_with fail
      all_goals go_ret
      all_goals exact ⟨ret_int (by rw [ES.out, HQ.out, E0.out]), Below.refl _ _⟩
theorem sineOf_any (a : Int) (h0 : -9223372036854775808 ≤ a) (h1 : a ≤ 9223372036854775807) (w : World) (hT : Tab w) :
    Calls Tryz.prog 58 #[.int .i64 a] w fun e w' => e = .returned (.int .i64 (sine a)) ∧ Below w.heap.size w w' := by
  by_cases h : 180000 ≤ nrm a
  · obtain ⟨n0, n1⟩ := nrm_bd a
    have E := Lib.hid (sine_other h)
    have hn : nrm (nrm a - 180000) < 180000 := by rw [nrm_id (by omega) (by omega)]; omega
    have HN := Lib.hid hn
    clear hn
    obtain ⟨s0, s1⟩ := sine_bd (nrm a - 180000)
    go_enter Tryz.func58, Tryz.ntmps58
    go_wp2_with fail
    refine (normalAngle_eq _ h0 h1 _).mono ?_
    rintro e w1 ⟨rfl, rfl⟩
    go_wp2_with fail
    refine (sineHalf_any _ (by omega) (by omega) HN.out _ hT).mono ?_
    rintro e w1 ⟨rfl, hb1⟩
    go_wp2_with fail
    go_ret
    exact ⟨ret_int E.out.symm, hb1⟩
  · exact sineHalf_any a h0 h1 (by omega) w hT
theorem cosineOf_any (a : Int) (h0 : -9223372036854775808 ≤ a) (h1 : a ≤ 9223372036854775807) (w : World) (hT : Tab w) :
    Calls Tryz.prog 59 #[.int .i64 a] w fun e w' => e = .returned (.int .i64 (cosi a)) ∧ Below w.heap.size w w' := by
  obtain ⟨b0, b1⟩ := nrm_bd a
  go_enter Tryz.func59, Tryz.ntmps59
  go_wp2_with fail
  refine (normalAngle_eq _ h0 h1 _).mono ?_
  rintro e w1 ⟨rfl, rfl⟩
  go_wp2_with fail
  refine (sineOf_any _ (by omega) (by omega) _ hT).mono ?_
  rintro e w2 ⟨rfl, hb2⟩
  go_wp2_with fail
  go_ret
  exact ⟨rfl, hb2⟩
theorem absOf_eq (n : Int) (hn : -9223372036854775807 ≤ n) (w : World) :
    Calls Tryz.prog 92 #[.int .i64 n] w fun e w' => e = .returned (.int .i64 (iabs n)) ∧ w = w' := by
  by_cases h : n < 0
  · have E := Lib.hid (iabs_neg h)
    go_enter Tryz.func92, Tryz.ntmps92
    go_wp2_with fail
    go_ret
    exact ⟨ret_int E.out.symm, rfl⟩
  · have E := Lib.hid (iabs_pos (n := n) (by omega))
    go_enter Tryz.func92, Tryz.ntmps92
    go_wp2_with fail
    go_ret
    exact ⟨ret_int E.out.symm, rfl⟩

/-- the code beside an angle -/
def arcC (y x : Int) : Int := if x = 0 ∧ y = 0 then 6 else 0
theorem arcC_z {y x : Int} (h : x = 0 ∧ y = 0) : arcC y x = 6 := if_pos h
theorem arcC_nz {y x : Int} (h : ¬ (x = 0 ∧ y = 0)) : arcC y x = 0 := if_neg h
set_option maxHeartbeats 4000000 in
theorem arcTangent_any (y x : Int) (hy : -1000000000000 ≤ y ∧ y ≤ 1000000000000) (hx : -1000000000000 ≤ x ∧ x ≤ 1000000000000) (w : World) (hT : Tab w) :
    Calls Tryz.prog 62 #[.int .i64 y, .int .i64 x] w fun e w' => e = .returned (.tuple #[.int .i64 (arct y x), .int .i64 (arcC y x)]) ∧ Below w.heap.size w w' := by
  have iy := inB_iff.2 hy
  have ix := inB_iff.2 hx
  obtain ⟨y0, y1⟩ := hy
  obtain ⟨x0, x1⟩ := hx
  by_cases hz : x = 0 ∧ y = 0
  · have CC := Lib.hid (arcC_z hz)
    obtain ⟨rfl, rfl⟩ := hz
    have E := Lib.hid arct_zero
    go_enter Tryz.func62, Tryz.ntmps62
    go_wp2_with fail
    refine (within_eq _ _ _ _).mono ?_
    rintro e w1 ⟨rfl, rfl⟩
    go_wp2_with fail
    refine (within_eq _ _ _ _).mono ?_
    rintro e w1 ⟨rfl, rfl⟩
    go_wp2_with fail
    go_ret2
    exact ⟨ret_tup E.out.symm CC.out.symm, Below.refl _ _⟩
  have CC := Lib.hid (arcC_nz hz)
  have hz' : (x == 0) = false ∨ ((x == 0) = true ∧ (y == 0) = false) := by
    by_cases h : x = 0
    · exact .inr ⟨by simpa using h, by simpa using fun e => hz ⟨h, e⟩⟩
    · exact .inl (by simpa using h)
  have ax := iabs_bd x0 x1
  have ay := iabs_bd y0 y1
  obtain ⟨ax0, ax1⟩ := ax
  obtain ⟨ay0, ay1⟩ := ay
  have hbb := arcB_bd y x
  obtain ⟨hbb0, hbb1⟩ := hbb
  have HU := Lib.hid (arcB_gt (y := y) (x := x))
  have HV := Lib.hid (arcB_le (y := y) (x := x))
  have hee := arcE_bd (min (iabs x) (iabs y)) (max (iabs x) (iabs y))
  have hR : arcE (min (iabs x) (iabs y)) (max (iabs x) (iabs y)) = bsr (arcP (min (iabs x) (iabs y)) (max (iabs x) (iabs y))) 0 45000 := rfl
  obtain ⟨u, hu⟩ : ∃ u, u = min (iabs x) (iabs y) := ⟨_, rfl⟩
  obtain ⟨v, hv⟩ : ∃ v, v = max (iabs x) (iabs y) := ⟨_, rfl⟩
  have hu0 : 0 ≤ u ∧ u ≤ 1000000000000 := by omega
  have hv0 : 0 ≤ v ∧ v ≤ 1000000000000 := by omega
  rw [← hu, ← hv] at HU HV hee hR
  obtain ⟨R, hRR⟩ : ∃ R, R = arcE u v := ⟨_, rfl⟩
  rw [← hRR] at HU HV hee hR
  clear hRR
  obtain ⟨r0, r1⟩ := hee
  have HR := Lib.hid hR
  have HU0 := Lib.hid hu0
  have HV0 := Lib.hid hv0
  clear hR hu0 hv0
  have HUU := Lib.hid hu
  have HVV := Lib.hid hv
  clear hu hv hz
  rcases hz' with hz' | ⟨hz', hz''⟩
  all_goals
    go_enter Tryz.func62, Tryz.ntmps62
    go_wp2_with fail
    refine (within_eq _ _ _ _).mono ?_
    rintro e w1 ⟨rfl, rfl⟩
    go_wp2_with fail
    refine (within_eq _ _ _ _).mono ?_
    rintro e w1 ⟨rfl, rfl⟩
    go_wp2_with fail
    refine (absOf_eq _ (by omega) _).mono ?_
    rintro e w1 ⟨rfl, rfl⟩
    go_wp2_with fail
    refine (absOf_eq _ (by omega) _).mono ?_
    rintro e w1 ⟨rfl, rfl⟩
    clear ix iy
    go_upto_region 6 with fail
    go_cut [8, 9] (fun a b wr => a = .int .i64 u ∧ b = .int .i64 v ∧ w = wr)
    case first =>
      go_wp2_with fail
      all_goals
        go_meet
        exact ⟨ret_num (by have := HUU.out; omega), ret_num (by have := HVV.out; omega), rfl⟩
    obtain ⟨rfl, rfl, rfl⟩ := hcut
    go_wp2_with fail
    go_loopw [10, 11] (fun a b wr => ∃ (lo : Int) (n : Nat), 0 ≤ lo ∧ lo + (n : Int) ≤ 45000 ∧ a = .int .i64 lo ∧ b = .int .i64 (lo + (n : Int)) ∧ bsr (arcP u v) lo n = R ∧ Below w.heap.size w wr) (fun a b _ => (intOf b - intOf a).toNat)
    case atStart => exact ⟨0, 45000, by omega, by omega, rfl, rfl, HR.out.symm, Below.refl _ _⟩
    case round =>
      obtain ⟨lo, n, l0, l1, rfl, rfl, hbs, hbl⟩ := hrel
      have BS := Lib.hid hbs
      clear hbs
      by_cases hn : 0 < n
      · have hlt : lo < lo + (n : Int) := by omega
        obtain ⟨m, hm⟩ : ∃ m : Int, m = lo + ((n / 2 : Nat) : Int) := ⟨_, rfl⟩
        have hmm : (lo + (lo + (n : Int))) / 2 = m := by omega
        have ST := Lib.hid (arc_step (u := u) (v := v) (lo := lo) hn)
        rw [← hm] at ST
        have m0 : 0 ≤ m := by omega
        have m1 : m ≤ 45000 := by omega
        have HM := Lib.hid hm
        clear hm
        obtain ⟨s0, s1⟩ := arc_mul (sine_bd m) HV0.out
        obtain ⟨c0, c1⟩ := arc_mul (cosi_bd m) HU0.out
        by_cases hp : cosi m * u ≤ sine m * v
        · have HP := Lib.hid (arcP_iff.2 hp)
          have hd := decide_eq_true hp
          go_wp2_with fail
          refine (sineOf_any _ (by omega) (by omega) _ (hT.below hbl)).mono ?_
          rintro e w1 ⟨rfl, hb1⟩
          go_wp2_with fail
          refine (cosineOf_any _ (by omega) (by omega) _ ((hT.below hbl).below hb1)).mono ?_
          rintro e w2 ⟨rfl, hb2⟩
          have hb3 := hbl.trans ((hb1.trans (hb2.mono hb1.size)).mono hbl.size)
          go_wp2_with fail
          go_roundw
          case rel => exact ⟨lo, n / 2, by omega, by omega, rfl, by rw [HM.out], (ST.out.1 HP.out).symm.trans BS.out, hb3⟩
          case measure =>
            have := HM.out
            simp [intOf]; omega
        · have HP := Lib.hid (arcP_no.2 hp)
          have hd := decide_eq_false hp
          go_wp2_with fail
          refine (sineOf_any _ (by omega) (by omega) _ (hT.below hbl)).mono ?_
          rintro e w1 ⟨rfl, hb1⟩
          go_wp2_with fail
          refine (cosineOf_any _ (by omega) (by omega) _ ((hT.below hbl).below hb1)).mono ?_
          rintro e w2 ⟨rfl, hb2⟩
          have hb3 := hbl.trans ((hb1.trans (hb2.mono hb1.size)).mono hbl.size)
          go_wp2_with fail
          go_roundw
          case rel =>
            have := HM.out
            exact ⟨m + 1, n - n / 2 - 1, by omega, by omega, rfl, ret_num (by omega), by rw [HM.out]; have h := ST.out.2 HP.out; rw [HM.out] at h; exact h.symm.trans BS.out, hb3⟩
          case measure =>
            have := HM.out
            simp [intOf]; omega
      · obtain rfl : n = 0 := by omega
        have hlo : lo = R := by rw [← BS.out]; exact (bsr_zero _ _).symm
        subst hlo
        clear BS HR HU0 HV0
        obtain ⟨B, hB⟩ : ∃ B, B = arcB y x := ⟨_, rfl⟩
        rw [← hB] at HU HV hbb0 hbb1
        have PP := Lib.hid (arct_pp (y := y) (x := x))
        have NP := Lib.hid (arct_np (y := y) (x := x))
        have NN := Lib.hid (arct_nn (y := y) (x := x))
        have PN := Lib.hid (arct_pn (y := y) (x := x))
        rw [← hB] at PP NP NN PN
        clear hB
        by_cases g : iabs x < iabs y
        · have e := HU.out (by omega)
          by_cases gx : 0 ≤ x
          · by_cases gy : 0 ≤ y
            · have E := Lib.hid (PP.out gx gy)
              have EE := Lib.hid e
              clear e
              go_wp2_with fail
              go_ret2
              exact ⟨ret_tup (by rw [E.out, EE.out]) CC.out.symm, hbl⟩
            · have E := Lib.hid (PN.out gx gy)
              have EE := Lib.hid e
              clear e
              go_wp2_with fail
              refine (normalAngle_eq _ (by omega) (by omega) _).mono ?_
              rintro e w1 ⟨rfl, rfl⟩
              go_wp2_with fail
              go_ret2
              exact ⟨ret_tup (by rw [E.out, EE.out]) CC.out.symm, hbl⟩
          · by_cases gy : 0 ≤ y
            · have E := Lib.hid (NP.out gx gy)
              have EE := Lib.hid e
              clear e
              go_wp2_with fail
              go_ret2
              exact ⟨ret_tup (by rw [E.out, EE.out]) CC.out.symm, hbl⟩
            · have E := Lib.hid (NN.out gx gy)
              have EE := Lib.hid e
              clear e
              go_wp2_with fail
              go_ret2
              exact ⟨ret_tup (by rw [E.out, EE.out]) CC.out.symm, hbl⟩
        · have e := HV.out (by omega)
          subst e
          by_cases gx : 0 ≤ x
          · by_cases gy : 0 ≤ y
            · have E := Lib.hid (PP.out gx gy)
              go_wp2_with fail
              go_ret2
              exact ⟨ret_tup E.out.symm CC.out.symm, hbl⟩
            · have E := Lib.hid (PN.out gx gy)
              go_wp2_with fail
              refine (normalAngle_eq _ (by omega) (by omega) _).mono ?_
              rintro e w1 ⟨rfl, rfl⟩
              go_wp2_with fail
              go_ret2
              exact ⟨ret_tup E.out.symm CC.out.symm, hbl⟩
          · by_cases gy : 0 ≤ y
            · have E := Lib.hid (NP.out gx gy)
              go_wp2_with fail
              go_ret2
              exact ⟨ret_tup E.out.symm CC.out.symm, hbl⟩
            · have E := Lib.hid (NN.out gx gy)
              go_wp2_with fail
              go_ret2
              exact ⟨ret_tup E.out.symm CC.out.symm, hbl⟩
end Go.Proofs.YthjllledhcfnhaaGreatDoor
