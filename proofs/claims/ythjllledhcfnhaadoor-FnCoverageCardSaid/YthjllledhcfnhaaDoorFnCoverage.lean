/- FnCoverage returns true at every input. Conditions: those that the argument meets; the variable sines holds its table. -/
import Derived.Test.YthjllledhcfnhaaDoorDrawFewest
import Derived.Test.YthjllledhcfnhaaDoorCover
import Derived.Test.YthjllledhcfnhaaDoorEvenImpl
import Derived.Test.YthjllledhcfnhaaDoorTail
import Derived.Deep.DeepCutAuto
namespace Go.Proofs.YthjllledhcfnhaaDoor
open Go.RowKit Go.Lib Go.Ks
theorem prs_okC {n : Nat} {L : Nat → ProjectorD} (h : ∀ j, j < n → PrB (L j)) : ∀ k, k < n → ProjectorOk (L k) := fun k hk => (h k hk).ok
set_option maxRecDepth 100000 in
set_option maxHeartbeats 8000000 in
theorem b10Rises_any (B c N : Nat) (ch : List Nat) (w : World) (hN : N ≤ 6) (hr : Rise N ch) (hb : Blk w B 2 (arr ch.length (IntC (chF ch)))) :
    Calls Tryd.prog 27 #[.slice (some ⟨B, 0, none⟩) ch.length c, .int .i64 (N : Int)] w fun e w' => e = .returned (.bool true) ∧ Below w.heap.size w w' := by
  obtain ⟨m, hm⟩ : ∃ m, ch.length = m := ⟨_, rfl⟩
  have HR := Lib.hid hr
  have HM := Lib.hid hm
  have m6 : m ≤ 6 := by have := hr.1; omega
  rw [hm] at hb ⊢
  clear hr hm
  go_enter Tryd.func27, Tryd.ntmps27
  go_wp2_with fail
  go_loopw [5] (fun i wr => ∃ k : Nat, k ≤ m ∧ i = .int .i64 (k : Int) ∧ Below w.heap.size w wr) (fun i _ => m - (intOf i).toNat)
  case atStart => exact ⟨0, Nat.zero_le _, rfl, Below.refl _ _⟩
  case round =>
    obtain ⟨k, hk, rfl, hbl⟩ := hrel
    have hk6 := hb.below hbl hb.lt
    have bl := hk6.lt
    by_cases hlt : k < m
    · have hlt' : (k : Int) < (m : Int) := by omega
      have v1 := HR.out.2.1 k (by rw [HM.out]; exact hlt)
      have d0 : wr.cell? ⟨B, k, none⟩ = some (.int .i64 ((ch.getD k 0 : Nat) : Int)) := by rw [hk6.cell, arr_get _ _ _ hlt]; rfl
      by_cases k0 : k = 0
      · subst k0
        obtain ⟨v, hv⟩ : ∃ v, ch.getD 0 0 = v := ⟨_, rfl⟩
        rw [hv] at v1 d0
        clear hv
        have v2 : (v : Int) < (N : Int) := by omega
        have nn1 : ¬ (v : Int) < 0 := by omega
        have nn2 : ¬ (N : Int) ≤ (v : Int) := by omega
        go_wp2_with fail
        refine wp_region_ext (by kernel_rfl) (by kernel_rfl) ?_
        repeat (go_big_quiet_step (fail))
        rw [show decide ((v : Int) < 0) = false from decide_eq_false (by omega)]
        repeat (go_big_quiet_step (fail))
        rw [show decide (N ≤ v) = false from decide_eq_false (by omega)]
        repeat (go_big_quiet_step (fail))
        skip
        refine wpQuiet_nil ?_
        intro e1
        have hbl5 := hbl.trans (e1.below.mono hbl.size)
        go_wp2_with fail
        go_roundw
        case rel => exact ⟨1, by omega, by go_num, hbl5⟩
        case measure => simp [intOf]; omega
      · have v3 := HR.out.2.2 (k - 1) (by rw [HM.out]; omega)
        rw [show k - 1 + 1 = k by omega] at v3
        have d1 : wr.cell? ⟨B, k - 1, none⟩ = some (.int .i64 ((ch.getD (k - 1) 0 : Nat) : Int)) := by rw [hk6.cell, arr_get _ _ _ (by omega)]; rfl
        obtain ⟨v, hv⟩ : ∃ v, ch.getD k 0 = v := ⟨_, rfl⟩
        obtain ⟨u, hu⟩ : ∃ u, ch.getD (k - 1) 0 = u := ⟨_, rfl⟩
        rw [hv] at v1 v3 d0
        rw [hu] at v3 d1
        clear hv hu
        have v2 : (v : Int) < (N : Int) := by omega
        have nn1 : ¬ (v : Int) < 0 := by omega
        have nn2 : ¬ (N : Int) ≤ (v : Int) := by omega
        have v4 : (u : Int) < (v : Int) := by omega
        have nn3 : ¬ (v : Int) ≤ (u : Int) := by omega
        have eq1 : (k : Int) - 1 = ((k - 1 : Nat) : Int) := by omega
        have wq : IntKind.i64.wrap ((k : Int) - 1) = ((k - 1 : Nat) : Int) := by rw [IntKind.wrap_i64]; omega
        have kp : 0 < (k : Int) := by omega
        go_wp2_with fail
        refine wp_region_ext (by kernel_rfl) (by kernel_rfl) ?_
        repeat (go_big_quiet_step (fail))
        rw [show decide ((v : Int) < 0) = false from decide_eq_false (by omega)]
        repeat (go_big_quiet_step (fail))
        rw [show decide (N ≤ v) = false from decide_eq_false (by omega)]
        repeat (go_big_quiet_step (fail))
        rw [show decide (0 < k) = true from decide_eq_true (by omega)]
        repeat (go_big_quiet_step (fail))
        rw [show decide (v ≤ u) = false from decide_eq_false (by omega)]
        repeat (go_big_quiet_step (fail))
        refine wpQuiet_nil ?_
        intro e1
        have hbl5 := hbl.trans (e1.below.mono hbl.size)
        go_wp2_with fail
        go_roundw
        case rel => exact ⟨k + 1, by omega, by go_num, hbl5⟩
        case measure => simp [intOf]; omega
    · obtain rfl : k = m := by omega
      go_wp2_with fail
      go_ret
      exact ⟨rfl, hbl⟩
set_option maxHeartbeats 800000 in
theorem cloneNil_any (c : Nat) (w : World) :
    Calls Tryd.prog 83 #[.slice none 0 c] w fun e w' => (∃ c', e = .returned (.slice none 0 c') ∧ c' = 0) ∧ Below w.heap.size w w' := by
  obtain ⟨i0, hi, hz0, hz1, hz2⟩ := info_parts Tryd.infoC43
  have heq := fun W => Lib.run_eql_slice_nil (P := Tryd.prog) W 27 43 none 0 c 0 0 Tryd.underlying27
  go_enter Tryd.func83, Tryd.ntmps83
  go_wp2_with fail
  go_ret
  exact ⟨⟨_, rfl, rfl⟩, Below.refl _ _⟩
set_option maxRecDepth 100000 in
set_option maxHeartbeats 8000000 in
theorem implEvenNil_any (c : Nat) (l : Nat → ProjectorD) (w : World) (hs : Sl w none (0 * 5) (ProjectorC l)) :
    Calls Tryd.prog 29 #[.slice none 0 c] w fun e w' => RetS w w' 43 5 (mEvenPowersN 0 l) (ProjectorC (mEvenPowersL 0 l)) (mEvenPowersC 0 l) e ∧ Below w.heap.size w w' := by
  have q : projsB 0 l = true := projsB_yes ⟨by omega, fun k hk => absurd hk (by omega)⟩
  have EE := Lib.hid (mEv_in q)
  go_enter Tryd.func29, Tryd.ntmps29
  go_wp2_with fail
  refine (validProjectors_any _ _ _ l _ (by omega) hs (fun k hk => absurd hk (by omega))).mono ?_
  rintro e w1 ⟨rfl, hb1⟩
  rw [q]
  clear q
  go_wp2_with fail
  refine (cloneNil_any c w1).mono ?_
  rintro e w5 ⟨⟨c', rfl, rfl⟩, hb5⟩
  have hbl5 := hb1.trans (hb5.mono hb1.size)
  go_wp2_with fail
  refine wp_loop_rounds 1 ?_
  rw [rounds_succ]
  go_wp2_with fail
  go_ret2
  exact ⟨rets_none5 EE.out.1 EE.out.2, hbl5⟩
theorem own_kind {w : World} {base size n : Nat} {e : TypeId} {A : Option Addr} {f : Nat → Value} (h : Own w base e size A n f) : (A = none ∧ n = 0) ∨ ∃ B, A = some ⟨B, 0, none⟩ := by
  rcases h with ⟨rfl, h0⟩ | ⟨B, m, h, rfl, _⟩
  · exact .inl ⟨rfl, h0⟩
  · exact .inr ⟨B, rfl⟩
theorem evens_any (A : Option Addr) (n c : Nat) (l : Nat → ProjectorD) (w : World) (hn : n ≤ 1048576) (hs : Sl w A (n * 5) (ProjectorC l)) (hA : (A = none ∧ n = 0) ∨ ∃ B, A = some ⟨B, 0, none⟩) (hg : ∀ k, k < n → ProjectorOk (l k)) :
    Calls Tryd.prog 29 #[.slice A n c] w fun e w' => RetS w w' 43 5 (mEvenPowersN n l) (ProjectorC (mEvenPowersL n l)) (mEvenPowersC n l) e ∧ Below w.heap.size w w' := by
  rcases hA with ⟨rfl, rfl⟩ | ⟨B, rfl⟩
  · exact implEvenNil_any c l w hs
  · exact @implEvenPowers_any (some ⟨B, 0, none⟩) n c ⟨⟨(B, 0), rfl⟩⟩ l w hn hs hg
theorem evP_x (l : Nat → ProjectorD) (x : Int) : ∀ k, evP l x k ≤ x
  | 0 => Int.le_refl _
  | k + 1 => by have := evP_x l x k; unfold evP; omega
theorem evP_le (l : Nat → ProjectorD) (x : Int) : ∀ k j, j < k → evP l x k ≤ (l j).f4
  | 0, _, h => absurd h (by omega)
  | k + 1, j, h => by
    unfold evP
    by_cases e : j = k
    · subst e; omega
    · have := evP_le l x k j (by omega); omega
theorem evP_ge (l : Nat → ProjectorD) (x b : Int) (hx : b ≤ x) : ∀ k, (∀ j, j < k → b ≤ (l j).f4) → b ≤ evP l x k
  | 0, _ => hx
  | k + 1, h => by
    have := evP_ge l x b hx k (fun j hj => h j (by omega))
    have := h k (by omega)
    unfold evP
    omega
theorem ev_same (l : Nat → ProjectorD) (n i j : Nat) (hi : i < n) (hj : j < n) : evP l (l i).f4 n = evP l (l j).f4 n :=
  Int.le_antisymm (evP_ge _ _ _ (evP_le _ _ _ _ hj) _ (fun _ hq => evP_le _ _ _ _ hq)) (evP_ge _ _ _ (evP_le _ _ _ _ hi) _ (fun _ hq => evP_le _ _ _ _ hq))
theorem addP_self (l : Nat → ProjectorD) (k : Nat) : addP l k (l k) = l := by
  funext j
  unfold addP
  split
  · rename_i h; rw [h]
  · rfl
theorem few_code (n : Nat) (l : Nat → ProjectorD) (st bud : Int) : (mFewO n l st bud = none ∧ mFewC n l st bud ≠ 0) ∨ ∃ ch, mFewO n l st bud = some ch ∧ mFewC n l st bud = 0 := by
  rcases bcase (projsB n l) with q | q
  · exact .inl ⟨(few_no q).1, by rw [(few_no q).2]; decide⟩
  by_cases h : inB st 10000 90000 = true ∧ inB bud 1 20000 = true
  · rw [(few_in q h).1, (few_in q h).2]
    cases e : srch n (fewL n l st) bud.toNat [] with
    | none => exact .inl ⟨rfl, by decide⟩
    | some ch => exact .inr ⟨ch, rfl, rfl⟩
  · exact .inl ⟨(few_out q h).1, by rw [(few_out q h).2]; decide⟩
set_option maxRecDepth 100000 in
set_option maxHeartbeats 16000000 in
theorem fnCoverage_any (A0 : Option Addr) (n0 c0 : Nat) (l0 : Nat → Int) (A1 : Option Addr) (n1 c1 : Nat) (l1 : Nat → Int) (w : World) (b0 : n0 ≤ 9223372036854775807) (s0 : Sl w A0 (n0 * 1) (ByteC l0)) (g0 : ∀ k, k < n0 → 0 ≤ l0 k ∧ l0 k ≤ 255) (b1 : n1 ≤ 9223372036854775807) (s1 : Sl w A1 (n1 * 1) (ByteC l1)) (g1 : ∀ k, k < n1 → 0 ≤ l1 k ∧ l1 k ≤ 255) (hT : Tab w) :
    Calls Tryd.prog 5 #[.slice A0 n0 c0, .slice A1 n1 c1] w fun e w' => e = .returned (.bool true) ∧ Below w.heap.size w w' := by
  have HT := Lib.hid hT
  clear hT
  go_enter Tryd.func5, Tryd.ntmps5
  go_wp2_with fail
  refine (b10Long_any A0 n0 c0 _ b0).mono ?_
  rintro e w1 ⟨rfl, HB⟩
  by_cases q0 : 1048576 < n0
  · rw [decide_eq_true q0]
    go_wp2_with fail
    go_ret
    exact ⟨rfl, HB⟩
  rw [decide_eq_false q0]
  go_wp2_with fail
  refine (b10Long_any A1 n1 c1 _ b1).mono ?_
  rintro e w2 ⟨rfl, hb2⟩
  replace HB := HB.trans (hb2.mono HB.size)
  clear hb2
  by_cases q1 : 1048576 < n1
  · rw [decide_eq_true q1]
    go_wp2_with fail
    go_ret
    exact ⟨rfl, HB⟩
  rw [decide_eq_false q1]
  have m0 : n0 ≤ 1048576 := by omega
  have m1 : n1 ≤ 1048576 := by omega
  have S0 := Lib.hid s0
  have G0 := Lib.hid g0
  have S1 := Lib.hid s1
  have G1 := Lib.hid g1
  clear q0 q1 s0 g0 s1 g1
  go_wp2_with fail
  refine (drawFewest_any A0 n0 c0 l0 _ m0 (S0.out.below HB) G0.out).mono ?_
  rintro e w3 ⟨⟨X, n, cn, L, st, bud, rfl, ⟨hn, xo, kx⟩, ⟨st0, st1⟩, bu0, bu1⟩, hb3⟩
  replace HB := HB.trans (hb3.mono HB.size)
  have XS := Lib.hid xo.sl
  have KX := Lib.hid kx
  clear xo kx hb3
  go_wp2_with fail
  refine (implDarkSpots_any X n cn L st _ (by omega) XS.out (prs_okC KX.out) (by omega) (HT.out.below HB)).mono ?_
  rintro e w4 ⟨⟨Z, cz, rfl, -, -⟩, hb4⟩
  have HX := hb4
  replace HB := HB.trans (hb4.mono HB.size)
  clear hb4
  go_wp2_with fail
  refine (implCoverageShare_any X n cn L st _ (by omega) (XS.out.below HX) (prs_okC KX.out) (by omega) (HT.out.below HB)).mono ?_
  rintro e w5 ⟨rfl, hb5⟩
  replace HX := HX.trans (hb5.mono HX.size)
  replace HB := HB.trans (hb5.mono HB.size)
  clear hb5
  go_wp2_with fail
  refine (implOverlapShare_any X n cn L st _ (by omega) (XS.out.below HX) (prs_okC KX.out) (by omega) (HT.out.below HB)).mono ?_
  rintro e w6 ⟨rfl, hb6⟩
  replace HX := HX.trans (hb6.mono HX.size)
  replace HB := HB.trans (hb6.mono HB.size)
  clear hb6
  rcases ask_split n L st with ⟨q, E⟩ | ⟨q, q', E⟩ | ⟨q, q', E⟩
  · have e1 := mDk_no (n := n) (l := L) (st := st) q
    rw [E, e1]
    go_wp2_with fail
    go_ret
    exact ⟨rfl, HB⟩
  · have e1 := mDk_out (n := n) (l := L) (st := st) q'
    rw [E, e1]
    go_wp2_with fail
    go_ret
    exact ⟨rfl, HB⟩
  rw [E]
  have SL := share_law q q'
  have DL := mDarkSpots_len n L st
  obtain ⟨D, hD⟩ : ∃ D, mDarkSpotsN n L st = D := ⟨_, rfl⟩
  obtain ⟨S, hS⟩ : ∃ S, mShareV n L st 1 = S := ⟨_, rfl⟩
  obtain ⟨T, hT⟩ : ∃ T, mShareV n L st 2 = T := ⟨_, rfl⟩
  rw [hD, hS, hT] at SL
  rw [hD] at DL
  rw [hD, hS, hT]
  obtain ⟨sl1, sl2, sl3, sl4, sl5⟩ := SL
  have HD := Lib.hid hD
  have HE := Lib.hid E
  clear hD hS hT E q q'
  have sd : (S == 1000) = ((D : Int) == 0) := by
    by_cases z : S = 1000
    · rw [z, sl5.1 z]; rfl
    · have z2 : ¬ ((D : Int) = 0) := fun h => z (sl5.2 (by omega))
      rw [cnt_ne z2]
      simpa using z
  go_wp2_with fail
  clear sd sl1 sl2 sl3 sl4 sl5
  refine (implFew_any X n cn L st bud _ (by omega) (XS.out.below HX) (prs_okC KX.out) ⟨by omega, by omega⟩ ⟨by omega, by omega⟩ (HT.out.below HB)).mono ?_
  rintro e w7 ⟨hR, hb7⟩
  have hX7 := HX.size
  replace HX := HX.trans (hb7.mono HX.size)
  replace HB := HB.trans (hb7.mono HB.size)
  rcases few_code n L st bud with ⟨f1, f2⟩ | ⟨ch, f1, f2⟩
  · rcases hR with ⟨-, rfl⟩ | ⟨ch2, B, c, f3, -⟩
    · obtain ⟨C, hC⟩ : ∃ C, mFewC n L st bud = C := ⟨_, rfl⟩
      rw [hC] at f2 ⊢
      have z := cnt_ne f2
      clear hC f1 f2 hb7 hX7
      go_wp2_with fail
      refine (drawEven_any A1 n1 c1 l1 _ m1 (S1.out.below HB) G1.out).mono ?_
      rintro e w8 ⟨⟨Y, m, cy, M, rfl, hm7, yo, ky⟩, hb8⟩
      replace HB := HB.trans (hb8.mono HB.size)
      have YS := Lib.hid yo.sl
      have KY := Lib.hid ky
      have YK := own_kind yo
      clear yo ky hb8
      go_wp2_with fail
      refine (evens_any Y m cy M _ (by omega) YS.out YK (prs_okC KY.out)).mono ?_
      clear YK
      rintro e w9 ⟨⟨G, cg, rfl, eo, -⟩, hb9⟩
      replace HB := HB.trans (hb9.mono HB.size)
      have hb9' := Lib.hid hb9
      clear hb9
      rcases bcase (projsB m M) with q | q
      · rw [(mEv_no q).1, (mEv_no q).2]
        clear eo
        go_wp2_with fail
        go_ret
        exact ⟨rfl, HB⟩
      have EM := mEv_in q
      rw [EM.1] at eo
      rw [EM.1, EM.2]
      have GS := Lib.hid eo.sl
      clear eo EM
      go_wp2_with fail
      go_loopw [23] (fun i wr => ∃ k : Nat, k ≤ m ∧ i = .int .i64 (k : Int) ∧ Below w9.heap.size w9 wr) (fun i _ => m - (intOf i).toNat)
      case atStart => exact ⟨0, Nat.zero_le _, rfl, Below.refl _ _⟩
      case round =>
        obtain ⟨k, hk, rfl, hbl⟩ := hrel
        have HBR := HB.trans (hbl.mono HB.size)
        by_cases hlt : k < m
        · have hlt' : (k : Int) < (m : Int) := by omega
          obtain ⟨b, off, rfl, hc⟩ := ProjectorAt.of_sl YS.out (by omega)
          obtain ⟨hbr, d0, d1, d2, d3, d4⟩ := (hc k hlt).below (hb9'.out.trans (hbl.mono hb9'.out.size))
          obtain ⟨b2, off2, rfl, hc2⟩ := ProjectorAt.of_sl GS.out (by omega)
          obtain ⟨hbr2, g0, g1, g2, g3, g4⟩ := (hc2 k hlt).below hbl
          obtain ⟨_, z0, z1, z2, z3, z4⟩ := (hc2 0 (by omega)).below hbl
          clear hc hc2
          have ES := ev_same M m k 0 hlt (by omega)
          have EL := evP_le M (M k).f4 m k hlt
          unfold mEvenPowersL at g0 g4 z4
          rw [← ES] at z4
          obtain ⟨P, hP⟩ : ∃ P, evP M (M k).f4 m = P := ⟨_, rfl⟩
          rw [hP] at z4 g4 EL
          clear hP ES g1 g2 g3 z0 z1 z2 z3 d1 d2 d3
          go_wp2_with fail
          refine wp_region_ext (by kernel_rfl) (by kernel_rfl) ?_
          repeat (go_big_quiet_step (fail))
          rw [show decide (m ≤ k) = false from decide_eq_false (by omega)]
          repeat (go_big_quiet_step (fail))
          try rw [show (P != P) = false from by simp]
          repeat (go_big_quiet_step (fail))
          try rw [show decide ((M k).f4 < P) = false from decide_eq_false (by omega)]
          repeat (go_big_quiet_step (fail))
          refine wpQuiet_nil ?_
          intro e1
          have hbl5 := hbl.trans (e1.below.mono hbl.size)
          go_wp2_with fail
          go_roundw
          case rel => exact ⟨k + 1, by omega, by go_num, hbl5⟩
          case measure => simp [intOf]; omega
        · obtain rfl : k = m := by omega
          go_wp2_with fail
          go_ret
          exact ⟨rfl, HBR⟩
    · rw [f1] at f3; cases f3
  · rcases hR with ⟨f3, -⟩ | ⟨ch2, B, c, f3, rfl, hB, hk⟩
    · rw [f1] at f3; cases f3
    · rw [f1] at f3
      cases f3
      rw [f2]
      have FF := Lib.hid (few_found f1)
      clear f1 f2
      go_wp2_with fail
      refine (b10Rises_any B c n ch _ (projs_all FF.out.1).1 FF.out.2.2.1 (hk.alloc _)).mono ?_
      rintro e w8 ⟨rfl, hb8⟩
      clear hb7 hB
      have H8 : Below w7.heap.size w7 w8 := ((Below.refl w7.heap.size w7).alloc (Nat.le_refl _) _).trans (hb8.mono (by simp))
      have R8 : Row w8 w7.heap.size 43 5 (.slice (some ⟨w7.heap.size, 0, none⟩) 0 0) 0 (ProjectorC (fun j => L (ch.getD j 0))) := Row.below (Row.empty _ _ _ _ (Nat.le_refl _)) hb8
      have HBK := Lib.hid hk
      have B7 := hk.lt
      clear hk hb8
      have c6 : ch.length ≤ 6 := by have h1 := (projs_all FF.out.1).1; have h2 := FF.out.2.2.1.1; omega
      obtain ⟨i0, hi, hz0, hz1, hz2⟩ := info_parts Tryd.infoC43
      obtain ⟨l', hl'⟩ : ∃ l', (fun j => L (ch.getD j 0)) = l' := ⟨_, rfl⟩
      rw [hl'] at R8
      have HL' := Lib.hid hl'
      clear hl'
      go_wp2_with fail
      go_loopw [16, 17] (fun v i wr => ∃ k : Nat, k ≤ ch.length ∧ i = .int .i64 (k : Int) ∧ Row wr w7.heap.size 43 5 v k (ProjectorC l') ∧ Below w7.heap.size w7 wr) (fun _ i _ => ch.length - (intOf i).toNat)
      case atStart => exact ⟨0, Nat.zero_le _, rfl, R8, H8⟩
      case round =>
        obtain ⟨k, hk, rfl, row, hbl⟩ := hrel
        have HXR := HX.trans (hbl.mono HX.size)
        have HBR := HB.trans (hbl.mono HB.size)
        have bs := hbl.size
        by_cases hlt : k < ch.length
        · have v1 := FF.out.2.2.1.2.1 k hlt
          have bk := HBK.out.below hbl B7
          have d0 : wr.cell? ⟨B, k, none⟩ = some (.int .i64 ((ch.getD k 0 : Nat) : Int)) := by rw [bk.cell, arr_get _ _ _ hlt]; rfl
          have bl := bk.lt
          have LK := Lib.hid (show L (ch.getD k 0) = l' k by rw [← HL'.out])
          obtain ⟨v, hv⟩ : ∃ v, ch.getD k 0 = v := ⟨_, rfl⟩
          have LK := Lib.hid (show L v = l' k by rw [← hv]; exact LK.out)
          rw [hv] at v1 d0
          clear hv bk
          obtain ⟨b, off, rfl, hc⟩ := ProjectorAt.of_sl XS.out (by omega)
          obtain ⟨hbr, e0, e1, e2, e3, e4⟩ := (hc v v1).below HXR
          clear hc
          go_wp2_with (at_builtin; refine wpList_append_row rfl _ _ 27 rfl w7.heap.size 43 i0 _ 5 48 Tryd.underlying27 hi hz0 hz1 hz2 rfl (by decide) _ k (ProjectorC l') rfl (row.alloc _) wr.heap.size 1 rfl ?c1 (prj_one _ k) ?c3 ?c4 ?c5 ?_)
          case c1 => intro j hj; rw [← addP_self l' k, ← LK.out]; exact addP_new (Blk.new wr _ _) j hj
          case c3 => omega
          case c4 => omega
          case c5 => first | omega | (simp; omega)
          intro v' wC row8 hg7
          have hb9 := Row.after (hbl.alloc (by omega) _) (Nat.le_refl _) (by simp; omega) (row.alloc _) hg7 row8
          clear hg7
          go_wp2_with fail
          go_roundw
          case rel => exact ⟨k + 1, by omega, by go_num, row8, hb9⟩
          case measure => simp [intOf]; omega
        · obtain rfl : k = ch.length := by omega
          obtain ⟨A9, c9, rfl, _, own9, _⟩ := row.own
          have S9 := Lib.hid own9.sl
          have OK9 := Lib.hid (show ∀ k, k < ch.length → ProjectorOk (l' k) from fun k hk => by rw [← HL'.out]; exact prs_okC KX.out _ (FF.out.2.2.1.2.1 k hk))
          have ND := FF.out.2.2.2
          rw [HL'.out, HD.out] at ND
          have ND := Lib.hid ND
          clear row own9
          go_wp2_with fail
          refine (implDarkSpots_any A9 ch.length c9 l' st _ (by omega) S9.out OK9.out (by omega) (HT.out.below HBR)).mono ?_
          rintro e wD ⟨⟨Z2, cz2, rfl, -, -⟩, hbD⟩
          rw [ND.out.1, ND.out.2]
          have HB2 := HBR.trans (hbD.mono HBR.size)
          clear hbD HBR HXR hbl bs HB H8 HX
          have HB := HB2
          clear HB2
          go_wp2_with fail
          refine (drawEven_any A1 n1 c1 l1 _ m1 (S1.out.below HB) G1.out).mono ?_
          rintro e wA ⟨⟨Y, m, cy, M, rfl, hm7, yo, ky⟩, hbA⟩
          replace HB := HB.trans (hbA.mono HB.size)
          have YS := Lib.hid yo.sl
          have KY := Lib.hid ky
          have YK := own_kind yo
          clear yo ky hbA
          go_wp2_with fail
          refine (evens_any Y m cy M _ (by omega) YS.out YK (prs_okC KY.out)).mono ?_
          clear YK
          rintro e wB ⟨⟨G, cg, rfl, eo, -⟩, hbB⟩
          replace HB := HB.trans (hbB.mono HB.size)
          have hbB' := Lib.hid hbB
          clear hbB
          rcases bcase (projsB m M) with q | q
          · rw [(mEv_no q).1, (mEv_no q).2]
            clear eo
            go_wp2_with fail
            go_ret
            exact ⟨rfl, HB⟩
          have EM := mEv_in q
          rw [EM.1] at eo
          rw [EM.1, EM.2]
          have GS := Lib.hid eo.sl
          clear eo EM
          go_wp2_with fail
          go_loopw [23] (fun i wr => ∃ k : Nat, k ≤ m ∧ i = .int .i64 (k : Int) ∧ Below wB.heap.size wB wr) (fun i _ => m - (intOf i).toNat)
          case atStart => exact ⟨0, Nat.zero_le _, rfl, Below.refl _ _⟩
          case round =>
            obtain ⟨k, hk, rfl, hbl⟩ := hrel
            have HBR := HB.trans (hbl.mono HB.size)
            by_cases hlt : k < m
            · have hlt' : (k : Int) < (m : Int) := by omega
              obtain ⟨b, off, rfl, hc⟩ := ProjectorAt.of_sl YS.out (by omega)
              obtain ⟨hbr, d0, d1, d2, d3, d4⟩ := (hc k hlt).below (hbB'.out.trans (hbl.mono hbB'.out.size))
              obtain ⟨b2, off2, rfl, hc2⟩ := ProjectorAt.of_sl GS.out (by omega)
              obtain ⟨hbr2, g0, g1, g2, g3, g4⟩ := (hc2 k hlt).below hbl
              obtain ⟨_, z0, z1, z2, z3, z4⟩ := (hc2 0 (by omega)).below hbl
              clear hc hc2
              have ES := ev_same M m k 0 hlt (by omega)
              have EL := evP_le M (M k).f4 m k hlt
              unfold mEvenPowersL at g0 g4 z4
              rw [← ES] at z4
              obtain ⟨P, hP⟩ : ∃ P, evP M (M k).f4 m = P := ⟨_, rfl⟩
              rw [hP] at z4 g4 EL
              clear hP ES g1 g2 g3 z0 z1 z2 z3 d1 d2 d3
              go_wp2_with fail
              refine wp_region_ext (by kernel_rfl) (by kernel_rfl) ?_
              repeat (go_big_quiet_step (fail))
              rw [show decide (m ≤ k) = false from decide_eq_false (by omega)]
              repeat (go_big_quiet_step (fail))
              try rw [show (P != P) = false from by simp]
              repeat (go_big_quiet_step (fail))
              try rw [show decide ((M k).f4 < P) = false from decide_eq_false (by omega)]
              repeat (go_big_quiet_step (fail))
              refine wpQuiet_nil ?_
              intro e1
              have hbl5 := hbl.trans (e1.below.mono hbl.size)
              go_wp2_with fail
              go_roundw
              case rel => exact ⟨k + 1, by omega, by go_num, hbl5⟩
              case measure => simp [intOf]; omega
            · obtain rfl : k = m := by omega
              go_wp2_with fail
              go_ret
              exact ⟨rfl, HBR⟩
end Go.Proofs.YthjllledhcfnhaaDoor
