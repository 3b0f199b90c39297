/- EvenPowers of the program. Conditions: the slice reads as projectors, one or more. -/
import Derived.Test.YthjllledhcfnhaaDoorEven
namespace Go.Proofs.YthjllledhcfnhaaDoor
open Go.RowKit Go.Lib Go.Ks
set_option maxHeartbeats 800000 in
theorem cloneP_any (b off n c : Nat) (l : Nat → ProjectorD) (w : World) (hn : n ≤ 1048576) (hs : Sl w (some ⟨b, off, none⟩) (n * 5) (ProjectorC l)) :
    Calls Tryd.prog 83 #[.slice (some ⟨b, off, none⟩) n c] w fun e w' => (∃ A' c', e = .returned (.slice A' n c') ∧ Own w' w.heap.size 43 5 A' n (ProjectorC l) ∧ (A' = none → c' = 0)) ∧ Below w.heap.size w w' := by
  obtain ⟨i0, hi, hz0, hz1, hz2⟩ := info_parts Tryd.infoC43
  have heq := fun W => Lib.run_eql_slice_nil (P := Tryd.prog) W 27 43 (some ⟨b, off, none⟩) n c 0 0 Tryd.underlying27
  have HC := Lib.hid (sl_at hs)
  clear hs
  go_enter Tryd.func83, Tryd.ntmps83
  go_wp2_with (at_builtin; refine wpList_append_all rfl _ _ 27 rfl w.heap.size 43 i0 _ 5 48 Tryd.underlying27 hi hz0 hz1 hz2 rfl (by decide) _ (ProjectorC l) rfl (Row.empty _ _ _ _ (Nat.le_refl _)) b off n c rfl ?c1 (fun j _ => oneProjector l j) ?c3 ?c4 ?c5 ?_)
  case c1 => intro j hj; have hq := HC.out j hj; rw [World.cell?_alloc_past (n := b) (i := off + j) _ hq.1]; exact hq.2
  case c3 => omega
  case c4 => omega
  case c5 => simp
  intro v' w5 hrow5 hg5
  have hbl5 : Below w.heap.size w w5 := ((Below.refl w.heap.size w).alloc (Nat.le_refl _) _).grown hg5 (by simp) (fun k hk => by simp [Value.ownBlock] at hk; omega)
  obtain ⟨A', c', rfl, _, hown, hz⟩ := hrow5.own
  clear hg5
  go_wp2_with fail
  go_ret
  exact ⟨⟨A', c', rfl, hown, hz⟩, hbl5⟩
set_option maxRecDepth 100000 in
set_option maxHeartbeats 4000000 in
theorem implEvenPowers_any (A : Option Addr) (n c : Nat) [hz : Nonempty {p : Nat × Nat // A = some ⟨p.1, p.2, none⟩}] (l : Nat → ProjectorD) (w : World) (hn : n ≤ 1048576) (hs : Sl w A (n * 5) (ProjectorC l)) (hg : ∀ k, k < n → ProjectorOk (l k)) :
    Calls Tryd.prog 29 #[.slice A n c] w fun e w' => RetS w w' 43 5 (mEvenPowersN n l) (ProjectorC (mEvenPowersL n l)) (mEvenPowersC n l) e ∧ Below w.heap.size w w' := by
  obtain ⟨⟨⟨ab, off⟩, hA⟩⟩ := hz
  obtain rfl : A = some ⟨ab, off, none⟩ := hA
  rcases b_cases (projsB n l) with q | q
  · have E := Lib.hid (mEv_no q)
    go_enter Tryd.func29, Tryd.ntmps29
    go_wp2_with fail
    refine (validProjectors_any _ _ _ l _ hn hs hg).mono ?_
    rintro e w1 ⟨rfl, hb1⟩
    go_wp2_with fail
    go_ret2
    exact ⟨rets_none5 E.out.1 E.out.2, hb1⟩
  have E := Lib.hid (mEv_in q)
  have OK := Lib.hid (projsB_of q)
  have n6 : n ≤ 6 := OK.out.1
  have n6' : (n : Int) ≤ 6 := by omega
  have PW : ∀ k, k < n → 1 ≤ (l k).f4 ∧ (l k).f4 ≤ 1000 := fun k hk => (proj_dir (OK.out.2 k hk).1).2.2.2
  have HPW := Lib.hid PW
  have hat : ∀ k, k < n → ProjectorAt w ab (off + k * 5) (l k) := fun k hk => by
    obtain ⟨b', off', hA, hq⟩ := ProjectorAt.of_sl hs (by omega)
    cases hA
    exact hq k hk
  have HAT := Lib.hid hat
  clear PW hat
  go_enter Tryd.func29, Tryd.ntmps29
  go_wp2_with fail
  refine (validProjectors_any _ _ _ l _ hn hs hg).mono ?_
  rintro e w1 ⟨rfl, hb1⟩
  go_wp2_with fail
  clear q
  refine (cloneP_any ab off n _ l _ hn (hs.below hb1)).mono ?_
  rintro e w5 ⟨⟨A', c', rfl, hown, hz⟩, hb5⟩
  have hbl5 := hb1.trans (hb5.mono hb1.size)
  rcases hown with ⟨rfl, h0⟩ | ⟨B, m, h, rfl, hB, hblk, hm, hf⟩
  · obtain rfl := hz rfl
    have hn0 : ¬ 0 < (n : Int) := by omega
    go_wp2_with fail
    refine wp_loop_rounds 1 ?_
    rw [rounds_succ]
    go_wp2_with fail
    go_ret2
    subst h0
    exact ⟨rets_none5 E.out.1 E.out.2, hbl5⟩
  have B0 : EvB w5 B 43 n (evD n l 0 0) := EvB.congr ⟨m, h, hblk, hm, hf⟩ (fun i _ => (ev_start n l i).symm)
  have hBw : w.heap.size ≤ B := by have := hb1.size; omega
  clear hblk hm hf hz hs
  go_wp2_with fail
  go_loopw [15, 5] (fun i _ wr => ∃ k : Nat, k ≤ n ∧ i = .int .i64 (k : Int) ∧ EvB wr B 43 n (evD n l k 0) ∧ Below w.heap.size w wr) (fun i _ _ => n - (intOf i).toNat)
  case atStart => exact ⟨0, Nat.zero_le _, rfl, B0, hbl5⟩
  case round =>
    obtain ⟨k, hk, rfl, hev, hbl⟩ := hrel
    by_cases hlt : k < n
    · have hlt' : (k : Int) < (n : Int) := by omega
      go_wp2_with fail
      obtain ⟨wo, rfl⟩ : ∃ wo : World, wo = wr := ⟨_, rfl⟩
      clear hlt'
      go_loopw [20, 7] (fun i _ wr => ∃ j : Nat, j ≤ n ∧ i = .int .i64 (j : Int) ∧ EvB wr B 43 n (evD n l k j) ∧ Below w.heap.size w wr) (fun i _ _ => n - (intOf i).toNat)
      case atStart => exact ⟨0, Nat.zero_le _, rfl, hev, hbl⟩
      case round =>
        obtain ⟨j, hj, rfl, hev, hbl⟩ := hrel
        by_cases hjt : j < n
        · have c4 := hev.cell4 hlt
          rw [ev_at] at c4
          have o4 := hev.open4 (k * 5 + 4)
          have bl := hev.lt
          obtain ⟨abl, a0, a1, a2, a3, a4⟩ := (HAT.out j hjt).below hbl
          have PE := evP_bd HPW.out (HPW.out k hlt) j hj
          obtain ⟨pe1, pe2⟩ := PE
          have PJ := HPW.out j hjt
          obtain ⟨pj1, pj2⟩ := PJ
          have HX := Lib.hid (show evP l (l k).f4 (j + 1) = min (evP l (l k).f4 j) (l j).f4 from rfl)
          go_wp2_with fail
          generalize hV : World.alloc _ _ = w6
          obtain ⟨hb6, x6⟩ := of_alloc hV
          clear hV c4 o4 bl abl a0 a1 a2 a3 a4
          have hev6 := hev.below hb6
          have c6 := hev6.cell4 hlt
          rw [ev_at] at c6
          have o6 := hev6.open4 (k * 5 + 4)
          have bl6 := hev6.lt
          have hbl6 := hbl.trans (hb6.mono hbl.size)
          have d0 := x6.cell 0
          have d1 := x6.cell 1
          have d2 := x6.cell 2
          have d3 := x6.cell 3
          have d4 := x6.cell 4
          simp at d0 d1 d2 d3 d4
          have dl := x6.lt
          refine wp_region_ext_tail 0 12 (by kernel_rfl) (by kernel_rfl) (fun d _ _ _ _ h => by cases d <;> exact h) ?_
          simp only [List.take_succ_cons, List.take_zero, List.drop_succ_cons, List.drop_zero]
          repeat (go_big_quiet_step (fail))
          refine wpQuiet_nil ?_
          intro e1
          have hev1 := hev6.below e1.below
          have o5 := hev1.open4 (k * 5 + 4)
          have bl5 := hev1.lt
          have hb1 := hbl6.trans (e1.below.mono hbl6.size)
          rw [show (if (l j).f4 < evP l (l k).f4 j then (l j).f4 else evP l (l k).f4 j) = evP l (l k).f4 (j + 1) by rw [HX.out]; split <;> omega]
          go_wp2_with fail
          go_roundw
          case rel => exact ⟨j + 1, by omega, by go_num, hev1.put, hb1.setCell hBw _⟩
          case measure => simp [intOf]; omega
        · obtain rfl : j = n := by omega
          go_wp2_with fail
          go_roundw
          case rel => exact ⟨k + 1, by omega, by go_num, hev.congr (fun i _ => ev_next _ l k i), hbl⟩
          case measure => simp [intOf]; omega
    · obtain rfl : k = n := by omega
      have ho := (hev.congr (fun i hi => ev_end _ l i hi)).own hBw
      go_wp2_with fail
      go_ret2
      exact ⟨retS5 E.out.1 E.out.2 ho, hbl⟩
end Go.Proofs.YthjllledhcfnhaaDoor
