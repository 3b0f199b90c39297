/- FnWeights returns true at every input. Conditions: those that the argument meets; the variable sines holds its table. -/
import Derived.Test.YthjllledhcfnhaaDoorDrawWeights
import Derived.Test.YthjllledhcfnhaaDoorWeightMath
import Derived.Test.YthjllledhcfnhaaDoorWeights
import Derived.Test.YthjllledhcfnhaaDoorTail
import Derived.Deep.DeepCutAuto
namespace Go.Proofs.YthjllledhcfnhaaDoor
open Go.RowKit Go.Lib Go.Ks
theorem prs_ok {n : Nat} {L : Nat → ProjectorD} (h : ∀ j, j < n → PrB (L j)) : ∀ k, k < n → ProjectorOk (L k) := fun k hk => (h k hk).ok
/-- the sum of a list -/
theorem b10Sum_any (A : Option Addr) (n c : Nat) (f : Nat → Int) (w : World) (hn : n ≤ 100) (hs : Sl w A (n * 1) (IntC f)) (hf : ∀ j, j < n → 0 ≤ f j ∧ f j ≤ 2000000) :
    Calls Tryd.prog 21 #[.slice A n c] w fun e w' => e = .returned (.int .i64 (sumTo f n)) ∧ Below w.heap.size w w' := by
  go_enter Tryd.func21, Tryd.ntmps21
  go_wp2_with fail
  go_loopw [3, 4] (fun t i wr => ∃ k : Nat, k ≤ n ∧ i = .int .i64 (k : Int) ∧ t = .int .i64 (sumTo f k) ∧ Below w.heap.size w wr) (fun _ i _ => n - (intOf i).toNat)
  case atStart => exact ⟨0, Nat.zero_le _, rfl, rfl, Below.refl _ _⟩
  case round =>
    obtain ⟨k, hk, rfl, rfl, hbl⟩ := hrel
    have hS := sumTo_bd (f := f) (m := 2000000) (by omega) k (fun j hj => hf j (by omega))
    obtain ⟨hS0, hS1⟩ := hS
    by_cases hlt : k < n
    · obtain ⟨b, off, rfl, hb, hc⟩ := (hs.below hbl) (by omega)
      have d0 := hc k (by omega)
      unfold IntC at d0
      obtain ⟨f0, f1⟩ := hf k hlt
      clear hc
      go_wp2_with fail
      go_roundw
      case rel => exact ⟨k + 1, by omega, by go_num, rfl, hbl⟩
      case measure => simp [intOf]; omega
    · obtain rfl : k = n := by omega
      go_wp2_with fail
      go_ret
      exact ⟨rfl, hbl⟩
theorem min_if (a b : Int) : (if b < a then b else a) = min a b := by split <;> omega
theorem max_if (a b : Int) : (if a < b then b else a) = max a b := by split <;> omega
theorem w_case (n : Nat) (l : Nat → ProjectorD) (az alt : Int) : (mBrC n l az alt = 0 ∧ mWeightsAtN n l az alt = n ∧ mBrV n l az alt = brightV n l az alt ∧ projsB n l = true ∧ upB az alt = true ∧ rawS l az alt n ≠ 0) ∨ (mBrC n l az alt ≠ 0 ∧ mWeightsAtN n l az alt = 0) := by
  rcases bool_cases (projsB n l) with q | q
  · exact .inr ⟨by rw [(mWe_no q).2]; decide, (mWe_no q).1⟩
  rcases bool_cases (upB az alt) with q' | q'
  · exact .inr ⟨by rw [(mWe_out q q').2]; decide, (mWe_out q q').1⟩
  rw [(mWe_in q q').1, (mWe_in q q').2, (mBr_in q q').1]
  by_cases h : rawS l az alt n = 0
  · exact .inr ⟨by unfold brightC; rw [if_pos h]; decide, if_pos h⟩
  · exact .inl ⟨if_neg h, if_neg h, if_neg h, q, q', h⟩
set_option maxRecDepth 100000 in
set_option maxHeartbeats 8000000 in
theorem fnWeights_any (A0 : Option Addr) (n0 c0 : Nat) (l0 : Nat → Int) (w : World) (b0 : n0 ≤ 9223372036854775807) (s0 : Sl w A0 (n0 * 1) (ByteC l0)) (g0 : ∀ k, k < n0 → 0 ≤ l0 k ∧ l0 k ≤ 255) (hT : Tab w) :
    Calls Tryd.prog 4 #[.slice A0 n0 c0] w fun e w' => e = .returned (.bool true) ∧ Below w.heap.size w w' := by
  go_enter Tryd.func4, Tryd.ntmps4
  go_wp2_with fail
  refine (b10Long_any A0 n0 c0 _ b0).mono ?_
  rintro e w1 ⟨rfl, HB⟩
  by_cases q0 : 1048576 < n0
  · rw [decide_eq_true q0]
    go_wp2_with fail
    go_ret
    exact ⟨rfl, HB⟩
  rw [decide_eq_false q0]
  have m0 : n0 ≤ 1048576 := by omega
  have S0 := Lib.hid s0
  have G0 := Lib.hid g0
  have HT := Lib.hid hT
  clear q0 s0 g0 hT
  go_wp2_with fail
  refine (drawWeights_any A0 n0 c0 l0 _ m0 (S0.out.below HB) G0.out).mono ?_
  rintro e w3 ⟨⟨X, n, cn, L, az, alt, rfl, ⟨hn, xo, kx⟩, ⟨ha0, ha1⟩, hl0, hl1⟩, hb3⟩
  replace HB := HB.trans (hb3.mono HB.size)
  have XS := Lib.hid xo.sl
  have KX := Lib.hid kx
  clear xo kx hb3
  go_wp2_with fail
  refine (implWeightsAt_any X n cn L az alt _ (by omega) XS.out (prs_ok KX.out) (by omega) (by omega) (HT.out.below HB)).mono ?_
  rintro e w4 ⟨⟨Z, cz, rfl, zo, hz⟩, hb4⟩
  replace HB := HB.trans (hb4.mono HB.size)
  go_wp2_with fail
  refine (implBrightnessAt_any X n cn L az alt _ (by omega) (XS.out.below hb4) (prs_ok KX.out) (by omega) (by omega) (HT.out.below HB)).mono ?_
  rintro e w5 ⟨rfl, hb5⟩
  replace HB := HB.trans (hb5.mono HB.size)
  have HX := hb4.trans (hb5.mono hb4.size)
  have ZS := Lib.hid (zo.below hb5).sl
  have HC := Lib.hid (w_case n L az alt)
  obtain ⟨C, hC⟩ : ∃ C, mBrC n L az alt = C := ⟨_, rfl⟩
  obtain ⟨N, hN⟩ : ∃ N, mWeightsAtN n L az alt = N := ⟨_, rfl⟩
  obtain ⟨V, hV⟩ : ∃ V, mBrV n L az alt = V := ⟨_, rfl⟩
  rw [hC, hN, hV] at HC
  rw [hN] at ZS
  rw [hC, hN, hV]
  clear hC hN hV hz zo hb4 hb5
  rcases HC.out with ⟨rfl, rfl, rfl, hp, hu, hs⟩ | ⟨hC, rfl⟩
  · obtain ⟨n6, hpk⟩ := projs_all hp
    have n6' : (N : Int) ≤ 6 := by omega
    have HF : ∀ k, k < N → 5000 ≤ (L k).f3 := fun k hk => (proj_dir (hpk k hk)).2.2.1.1
    have HPW : ∀ k, k < N → 1 ≤ (L k).f4 ∧ (L k).f4 ≤ 1000 := fun k hk => (proj_dir (hpk k hk)).2.2.2
    have hpos : 0 < N := (sharesN_pos hs).2
    have hS : 0 < rawS L az alt N := by
      have := (rawS_bd (az := az) (alt := alt) HF (Nat.le_refl N)).1
      have e : sumTo (rawF L az alt) N = rawS L az alt N := rfl
      omega
    have BB := bright_between hS hpos HF
    obtain ⟨bb0, bb1⟩ := BB
    have HSUM := Lib.hid (shares_sum hS hpos)
    have HNONE := Lib.hid (fun (k : Nat) (hk : k < N) (h : rawF L az alt k = 0) => share_none hS hpos hk h)
    have HSH := Lib.hid (fun (k : Nat) (hk : k < N) => sharesL_bd (az := az) (alt := alt) HF hs hk)
    have HLH := Lib.hid (fun (k : Nat) (hk : k ≤ N) => lowhigh_bd (az := az) (alt := alt) HPW k hk)
    have HRF := Lib.hid (fun (k : Nat) (hk : k < N) => rawF_bd (az := az) (alt := alt) HF hk)
    have HPK := Lib.hid hpk
    have HPWH := Lib.hid HPW
    have HU := Lib.hid hu
    have ZL : ∀ wq, Below w5.heap.size w5 wq → Sl wq Z (N * 1) (IntC (sharesL L az alt N)) := fun wq hq => ZS.out.below hq
    have HZL := Lib.hid ZL
    clear HC hp hu hs hpk HF HPW hpos hS ZL ZS
    go_wp2_with fail
    have HQ := b10Sum_any Z N cz (sharesL L az alt N) w5 (by omega) (HZL.out _ (Below.refl _ _)) (fun j hj => ⟨(HSH.out j hj).1, Int.le_trans (HSH.out j hj).2 (by decide)⟩)
    rw [HSUM.out] at HQ
    refine HQ.mono ?_
    clear HQ
    rintro e w6 ⟨rfl, hb6⟩
    replace HB := HB.trans (hb6.mono HB.size)
    have HX6 := HX.trans (hb6.mono HX.size)
    clear HX
    go_wp2_with fail
    go_loopw [10, 11, 12] (fun lo hi i wr => ∃ k : Nat, k ≤ N ∧ i = .int .i64 (k : Int) ∧ lo = .int .i64 (lowTo L az alt k) ∧ hi = .int .i64 (highTo L az alt k) ∧ Below w6.heap.size w6 wr) (fun _ _ i _ => N - (intOf i).toNat)
    case atStart => exact ⟨0, Nat.zero_le _, rfl, rfl, rfl, Below.refl _ _⟩
    case round =>
      obtain ⟨k, hk, rfl, rfl, rfl, hbl⟩ := hrel
      have HBR := HB.trans (hbl.mono HB.size)
      by_cases hlt : k < N
      · have hlt' : (k : Int) < (N : Int) := by omega
        obtain ⟨b, off, rfl, hc⟩ := ProjectorAt.of_sl XS.out (by omega)
        obtain ⟨hbr, d0, d1, d2, d3, d4⟩ := (hc k hlt).below (HX6.trans (hbl.mono HX6.size))
        obtain ⟨b2, off2, rfl, hb2, hc2⟩ := (HZL.out _ (hb6.trans (hbl.mono hb6.size))) (by omega)
        have z0 := hc2 k (by omega)
        unfold IntC at z0
        clear hc hc2
        have OKP := Lib.hid ((KX.out k hlt).ok)
        obtain ⟨R, hR⟩ : ∃ R, rawF L az alt k = R := ⟨_, rfl⟩
        obtain ⟨Y, hY⟩ : ∃ Y, sharesL L az alt N k = Y := ⟨_, rfl⟩
        have hr := HRF.out k hlt
        have hsh := (HSH.out k hlt).1
        rw [hR] at hr
        rw [hY] at hsh z0
        obtain ⟨hr0, hr1⟩ := hr
        have hnone : R = 0 → Y = 0 := fun e => by rw [← hY]; exact HNONE.out k hlt (by rw [hR]; exact e)
        have hlo : lowTo L az alt (k + 1) = if 0 < R then min (lowTo L az alt k) (L k).f4 else lowTo L az alt k := by rw [← hR]; rfl
        have hhi : highTo L az alt (k + 1) = if 0 < R then max (highTo L az alt k) (L k).f4 else highTo L az alt k := by rw [← hR]; rfl
        have HLO := Lib.hid hlo
        have HHI := Lib.hid hhi
        have HNO := Lib.hid hnone
        have RAW := implRawWeight_any (L k).f0 (L k).f1 (L k).f2 (L k).f3 (L k).f4 az alt
        have e1 := mRaw_in (x := L k) (az := az) (alt := alt) (HPK.out k hlt) HU.out
        have e2 : rawP (L k) az alt = R := hR
        rw [show (⟨(L k).f0, (L k).f1, (L k).f2, (L k).f3, (L k).f4⟩ : ProjectorD) = L k from rfl, e1.1, e1.2, e2] at RAW
        have RW := Lib.hid RAW
        clear RAW e1 e2 hR hY hlo hhi hnone
        go_wp2_with fail
        refine (RW.out _ OKP.out.1 OKP.out.2.1 OKP.out.2.2.1 OKP.out.2.2.2.1 OKP.out.2.2.2.2 (by omega) (by omega) (HT.out.below HBR)).mono ?_
        rintro e w7 ⟨rfl, hb7⟩
        have hbl7 := hbl.trans (hb7.mono hbl.size)
        have e4 : w7.cell? ⟨b, off + k * 5 + 4, none⟩ = some (.int .i64 (L k).f4) := (hb7.cell (p := ⟨b, off + k * 5 + 4, none⟩) hbr).trans d4
        have y0 : w7.cell? ⟨b2, off2 + k, none⟩ = some (.int .i64 Y) := (hb7.cell (p := ⟨b2, off2 + k, none⟩) hb2).trans (by simpa using z0)
        have lb : b < w7.heap.size := Nat.lt_of_lt_of_le hbr hb7.size
        have lb2 : b2 < w7.heap.size := Nat.lt_of_lt_of_le hb2 hb7.size
        have nn1 : ¬ 1001 < R := by omega
        have nn2 : ¬ R < 0 := by omega
        have nn3 : ¬ Y < 0 := by omega
        clear d0 d1 d2 d3 d4 z0 hbl HBR
        by_cases r : R = 0
        · have yz := HNO.out r
          subst r yz
          have l1 := HLO.out
          have l2 := HHI.out
          rw [if_neg (by omega)] at l1 l2
          have L1 := Lib.hid l1.symm
          have L2 := Lib.hid l2.symm
          clear l1 l2
          go_wp2_with fail
          go_roundw
          case rel => exact ⟨k + 1, by omega, by go_num, ret_num L1.out, ret_num L2.out, hbl7⟩
          case measure => simp [intOf]; omega
        · have rp : 0 < R := by omega
          have l1 := HLO.out
          have l2 := HHI.out
          rw [if_pos rp] at l1 l2
          have L1 := Lib.hid l1.symm
          have L2 := Lib.hid l2.symm
          clear l1 l2
          have r1 : (R == 0) = false := by simpa using r
          have r2 : (R != 0) = true := by simpa using r
          clear r
          go_wp2_with fail
          go_roundw
          case rel => exact ⟨k + 1, by omega, by go_num, ret_num ((min_if _ _).trans L1.out), ret_num ((max_if _ _).trans L2.out), hbl7⟩
          case measure => simp [intOf]; omega
      · obtain rfl : k = N := by omega
        go_wp2_with fail
        go_ret
        exact ⟨rfl, HBR⟩
  · have hC1 : (C == 0) = false := by simpa using hC
    have hC2 : (C != 0) = true := by simpa using hC
    clear HC XS KX
    go_wp2_with fail
    go_ret
    exact ⟨rfl, HB⟩
end Go.Proofs.YthjllledhcfnhaaDoor
