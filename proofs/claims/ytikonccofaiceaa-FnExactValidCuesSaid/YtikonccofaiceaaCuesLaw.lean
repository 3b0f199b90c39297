/- ValidCues of the reference and of the program. Conditions: the slice reads as cues; its capacity is no less than its length. -/
import Derived.Test.YtikonccofaiceaaCues
import Derived.Deep.DeepCutAuto
namespace Go.Proofs.Ytikonccofaiceaa
open Go.RowKit Go.Lib Go.Ks
open Classical in
noncomputable def noIdB (l : Nat → CueD) (s : ByteArray) (k : Nat) : Bool := decide (NoId l s k)
/-- what may be wrong with cue k, in the order of the reference's tests -/
theorem stand_split (l : Nat → CueD) (k : Nat) : (cueB (l k) = false ∧ ¬ CueStand l k) ∨ (cueB (l k) = true ∧ ¬ NoId l (l k).f0 k ∧ ¬ CueStand l k) ∨
    (cueB (l k) = true ∧ NoId l (l k).f0 k ∧ 0 < k ∧ cueLtB (l (k - 1)) (l k) = false ∧ ¬ CueStand l k) ∨
    (cueB (l k) = true ∧ NoId l (l k).f0 k ∧ 0 < k ∧ cueLtB (l (k - 1)) (l k) = true ∧ CueStand l k) ∨ (cueB (l k) = true ∧ NoId l (l k).f0 k ∧ k = 0 ∧ CueStand l k) := by
  cases h1 : cueB (l k)
  · exact .inl ⟨rfl, fun h => by rw [h.1] at h1; cases h1⟩
  by_cases h2 : NoId l (l k).f0 k
  · by_cases h3 : 0 < k
    · cases h4 : cueLtB (l (k - 1)) (l k)
      · exact .inr (.inr (.inl ⟨rfl, h2, h3, rfl, fun h => by rw [cueLtB_yes (h.2.2 h3)] at h4; cases h4⟩))
      · exact .inr (.inr (.inr (.inl ⟨rfl, h2, h3, rfl, h1, h2, fun _ => cueLtB_iff.1 h4⟩)))
    · exact .inr (.inr (.inr (.inr ⟨rfl, h2, by omega, h1, h2, fun h => absurd h h3⟩)))
  · exact .inr (.inl ⟨rfl, h2, fun h => h2 h.2.1⟩)
theorem cues_bad {n : Nat} {l : Nat → CueD} {k : Nat} (hk : k < n) (h : ¬ CueStand l k) : cuesB n l = false := cuesB_no (fun hh => h (hh.2 k hk))
theorem implCue_l (x : CueD) (w : World) (h : CueOk x) :
    Calls Try.prog 11 #[.agg #[.string x.f0, .int .i64 x.f1, .int .i64 x.f2, .string x.f3, .int .i64 x.f4, .int .i64 x.f5]] w fun e w' => e = .returned (.bool (cueB x)) ∧ Below w.heap.size w w' := implValidCue_any _ _ _ _ _ _ w h.1 h.2.1 h.2.2.1 h.2.2.2.1 h.2.2.2.2.1 h.2.2.2.2.2
theorem sl_pre {w : World} {A : Option Addr} {m m' : Nat} {f : Nat → Value} (h : Sl w A m f) (hm : m' ≤ m) : Sl w A m' f := fun hp => by
  obtain ⟨b, off, hA, hb, hc⟩ := h (by omega)
  exact ⟨b, off, hA, hb, fun j hj => hc j (by omega)⟩
set_option maxRecDepth 100000 in
set_option maxHeartbeats 4000000 in
theorem l13Ok_any (A : Option Addr) (n c : Nat) (l : Nat → CueD) (w : World) (hn : n ≤ 1048576) (hs : Sl w A (n * 6) (CueC l)) (hg : ∀ k, k < n → CueOk (l k)) :
    Calls Try.prog 34 #[.slice A n c] w fun e w' => e = .returned (.bool (cuesB n l)) ∧ Below w.heap.size w w' := by
  have hn3 : (n : Int) ≤ 1048576 := by omega
  go_enter Try.func34, Try.ntmps34
  go_wp2_with fail
  go_loopw [3] (fun i wr => ∃ k : Nat, k ≤ n ∧ i = .int .i64 k ∧ Below w.heap.size w wr ∧ ∀ j, j < k → CueStand l j) (fun i _ => n - (intOf i).toNat)
  case atStart => exact ⟨0, Nat.zero_le _, rfl, Below.refl _ _, fun j hj => absurd hj (by omega)⟩
  case round =>
    obtain ⟨k, hk, rfl, hbl, hall⟩ := hrel
    have HALL := Lib.hid hall
    clear hall
    by_cases hlt : k < n
    · obtain ⟨b, off, rfl, hc⟩ := CueAt.of_sl hs (by omega)
      have l1 := Lib.hid (fun (e : ExtW wr) => ((hc k hlt).below hbl).below (ExtW.below e))
      have l0 := Lib.hid (fun (e : ExtW wr) (h0 : 0 < k) => ((hc (k - 1) (by omega)).below hbl).below (ExtW.below e))
      have p0 := ((hc k hlt).below hbl).2.1
      have hbr := ((hc k hlt).below hbl).1
      have SS := Lib.hid (fun (e : ExtW wr) => (hs.below hbl).below (ExtW.below e))
      have GK := Lib.hid (hg k hlt)
      clear hc
      rcases stand_split l k with ⟨q1, bad⟩ | ⟨q1, q2, bad⟩ | ⟨q1, q2, q3, q4, bad⟩ | ⟨q1, q2, q3, q4, ok⟩ | ⟨q1, q2, q3, ok⟩
      · have E := Lib.hid (cues_bad hlt bad)
        clear bad
        go_wp2_with fail
        refine wp_region_ext (by kernel_rfl) (by kernel_rfl) ?_
        repeat (go_big_quiet_step ((first | (go_at_call 28; exact quiet_ext (l13One_any _ _ (l k) _ (l1.out _) GK.out)) | (go_at_call 48; exact quiet_ext (l13Find_any _ n _ l _ _ hn (SS.out _))) | (go_at_call 49; exact quiet_ext (l13Before_any _ _ _ _ (l (k - 1)) (l k) _ (l0.out _ (by omega)) (l1.out _))))))
        refine wpQuiet_nil ?_
        intro e1
        have hb1 := hbl.trans (e1.below.mono hbl.size)
        go_wp2_with fail
        go_ret
        exact ⟨ret_bool E.out.symm, hb1⟩
      · have E := Lib.hid (cues_bad hlt bad)
        have hf := (find_self hlt).2 q2
        have hfd := decide_eq_true hf
        clear bad hf q2
        go_wp2_with fail
        refine wp_region_ext (by kernel_rfl) (by kernel_rfl) ?_
        repeat (go_big_quiet_step ((first | (go_at_call 28; exact quiet_ext (l13One_any _ _ (l k) _ (l1.out _) GK.out)) | (go_at_call 48; exact quiet_ext (l13Find_any _ n _ l _ _ hn (SS.out _))) | (go_at_call 49; exact quiet_ext (l13Before_any _ _ _ _ (l (k - 1)) (l k) _ (l0.out _ (by omega)) (l1.out _))))))
        refine wpQuiet_nil ?_
        intro e1
        have hb1 := hbl.trans (e1.below.mono hbl.size)
        go_wp2_with fail
        go_ret
        exact ⟨ret_bool E.out.symm, hb1⟩
      · have E := Lib.hid (cues_bad hlt bad)
        have hf : ¬ findTo l (l k).f0 n < (k : Int) := fun h => (find_self hlt).1 h q2
        have hfd := decide_eq_false hf
        have hk1 : (1 : Int) ≤ k := by omega
        clear bad hf q2
        go_wp2_with fail
        refine wp_region_ext (by kernel_rfl) (by kernel_rfl) ?_
        repeat (go_big_quiet_step ((first | (go_at_call 28; exact quiet_ext (l13One_any _ _ (l k) _ (l1.out _) GK.out)) | (go_at_call 48; exact quiet_ext (l13Find_any _ n _ l _ _ hn (SS.out _))) | (go_at_call 49; exact quiet_ext (l13Before_any _ _ _ _ (l (k - 1)) (l k) _ (l0.out _ (by omega)) (l1.out _))))))
        refine wpQuiet_nil ?_
        intro e1
        have hb1 := hbl.trans (e1.below.mono hbl.size)
        go_wp2_with fail
        go_ret
        exact ⟨ret_bool E.out.symm, hb1⟩
      · have HOK := Lib.hid (okAll HALL.out ok)
        have hf : ¬ findTo l (l k).f0 n < (k : Int) := fun h => (find_self hlt).1 h q2
        have hfd := decide_eq_false hf
        have hk1 : (1 : Int) ≤ k := by omega
        clear ok hf q2
        go_wp2_with fail
        refine wp_region_ext (by kernel_rfl) (by kernel_rfl) ?_
        repeat (go_big_quiet_step ((first | (go_at_call 28; exact quiet_ext (l13One_any _ _ (l k) _ (l1.out _) GK.out)) | (go_at_call 48; exact quiet_ext (l13Find_any _ n _ l _ _ hn (SS.out _))) | (go_at_call 49; exact quiet_ext (l13Before_any _ _ _ _ (l (k - 1)) (l k) _ (l0.out _ (by omega)) (l1.out _))))))
        refine wpQuiet_nil ?_
        intro e1
        have hb1 := hbl.trans (e1.below.mono hbl.size)
        go_wp2_with fail
        go_roundw
        case rel => exact ⟨k + 1, by omega, by go_num, hb1, HOK.out⟩
        case measure => simp [intOf]; omega
      · have HOK := Lib.hid (okAll HALL.out ok)
        have hf : ¬ findTo l (l k).f0 n < (k : Int) := fun h => (find_self hlt).1 h q2
        have hfd := decide_eq_false hf
        have q3' : decide (0 < k) = false := by simp; omega
        have HK0 := Lib.hid q3
        clear ok hf q2 q3
        go_wp2_with fail
        refine wp_region_ext (by kernel_rfl) (by kernel_rfl) ?_
        repeat (go_big_quiet_step ((first | (go_at_call 28; exact quiet_ext (l13One_any _ _ (l k) _ (l1.out _) GK.out)) | (go_at_call 48; exact quiet_ext (l13Find_any _ n _ l _ _ hn (SS.out _))) | (go_at_call 49; exact quiet_ext (l13Before_any _ _ _ _ (l (k - 1)) (l k) _ (l0.out _ (by omega)) (l1.out _))))))
        refine wpQuiet_nil ?_
        intro e1
        have hb1 := hbl.trans (e1.below.mono hbl.size)
        go_wp2_with fail
        go_roundw
        case rel => exact ⟨k + 1, by omega, by go_num, hb1, HOK.out⟩
        case measure => simp [intOf]; omega
    · have hkn : k = n := by omega
      subst hkn
      by_cases h6 : k ≤ 32
      · have E := Lib.hid (cuesB_yes (n := k) (l := l) ⟨h6, HALL.out⟩)
        have h6' : (k : Int) ≤ 32 := by omega
        go_wp2_with fail
        go_ret
        exact ⟨ret_bool E.out.symm, hbl⟩
      · have E := Lib.hid (cuesB_no (n := k) (l := l) (fun h => h6 h.1))
        have h6' : ¬ (k : Int) ≤ 32 := by omega
        go_wp2_with fail
        go_ret
        exact ⟨ret_bool E.out.symm, hbl⟩
theorem specValidCues_any (A : Option Addr) (n c : Nat) (l : Nat → CueD) (w : World) (hn : n ≤ 1048576) (hs : Sl w A (n * 6) (CueC l)) (hg : ∀ k, k < n → CueOk (l k)) :
    Calls Try.prog 17 #[.slice A n c] w fun e w' => e = .returned (.bool (cuesB n l)) ∧ Below w.heap.size w w' := by
  go_enter Try.func17, Try.ntmps17
  go_wp2_with fail
  refine (l13Ok_any _ _ _ l _ hn hs hg).mono ?_
  rintro e w1 ⟨rfl, hb1⟩
  go_wp2_with fail
  go_ret
  exact ⟨rfl, hb1⟩
set_option maxRecDepth 100000 in
set_option maxHeartbeats 4000000 in
theorem implValidCues_any (A : Option Addr) (n c : Nat) (l : Nat → CueD) (w : World) (hn : n ≤ 1048576) (hs : Sl w A (n * 6) (CueC l)) (hg : ∀ k, k < n → CueOk (l k)) (hcap : n ≤ c) :
    Calls Try.prog 18 #[.slice A n c] w fun e w' => e = .returned (.bool (cuesB n l)) ∧ Below w.heap.size w w' := by
  have hn3 : (n : Int) ≤ 1048576 := by omega
  by_cases h6 : n ≤ 32
  rotate_left
  · have E := Lib.hid (cuesB_no (n := n) (l := l) (fun h => h6 h.1))
    have h6' : 32 < (n : Int) := by omega
    go_enter Try.func18, Try.ntmps18
    go_wp2_with fail
    go_ret
    exact ⟨ret_bool E.out.symm, Below.refl _ _⟩
  have h6' : (n : Int) ≤ 32 := by omega
  go_enter Try.func18, Try.ntmps18
  go_wp2_with fail
  go_loopw [10] (fun i wr => ∃ k : Nat, k ≤ n ∧ i = .int .i64 k ∧ Below w.heap.size w wr ∧ ∀ j, j < k → CueStand l j) (fun i _ => n - (intOf i).toNat)
  case atStart => exact ⟨0, Nat.zero_le _, rfl, Below.refl _ _, fun j hj => absurd hj (by omega)⟩
  case round =>
    obtain ⟨k, hk, rfl, hbl, hall⟩ := hrel
    have HALL := Lib.hid hall
    clear hall
    by_cases hlt : k < n
    · obtain ⟨b, off, rfl, hc⟩ := CueAt.of_sl hs (by omega)
      obtain ⟨hbr, d0, d1, d2, d3, d4, d5⟩ := (hc k hlt).below hbl
      have hbr2 : b < wr.heap.size + 1 := by omega
      have GK := Lib.hid (hg k hlt)
      have PREV := Lib.hid (fun (h0 : 0 < k) => (hc (k - 1) (by omega)).below hbl)
      have hkc : (k : Int) ≤ (c : Int) := by omega
      clear hc
      go_upto_region 6 with fail
      generalize hV : World.alloc _ _ = w2
      have hb2 : Below wr.heap.size wr w2 := by rw [← hV]; exact (Below.refl _ _).alloc (Nat.le_refl _) _
      have x2 : Blk w2 wr.heap.size 26 #[.string (l k).f0, .int .i64 (l k).f1, .int .i64 (l k).f2, .string (l k).f3, .int .i64 (l k).f4, .int .i64 (l k).f5] := by rw [← hV]; exact Blk.new wr _ _
      clear hV d0 d1 d2 d3 d4 d5
      have hbl2 := hbl.trans (hb2.mono hbl.size)
      have SS := Lib.hid (fun (e : ExtW w2) => (sl_pre (hs.below hbl2) (show k * 6 ≤ n * 6 by omega)).below (ExtW.below e))
      have hbr3 : b < w2.heap.size := Nat.lt_of_lt_of_le hbr hb2.size
      have d0 := x2.cell 0
      have d1 := x2.cell 1
      have d2 := x2.cell 2
      have d3 := x2.cell 3
      have d4 := x2.cell 4
      have d5 := x2.cell 5
      simp at d0 d1 d2 d3 d4 d5
      have dl := x2.lt
      have CP := Lib.hid (fun (h0 : 0 < k) => (PREV.out h0).below hb2)
      rcases stand_split l k with ⟨q1, bad⟩ | ⟨q1, q2, bad⟩ | ⟨q1, q2, q3, q4, bad⟩ | ⟨q1, q2, q3, q4, ok⟩ | ⟨q1, q2, q3, ok⟩
      · have E := Lib.hid (cues_bad hlt bad)
        clear bad
        refine wp_region_ext (by kernel_rfl) (by kernel_rfl) ?_
        repeat (go_big_quiet_step ((first | (go_at_call 11; exact quiet_ext (implCue_l (l k) _ GK.out)) | (go_at_call 35; exact quiet_ext (compareCues_any (l (k - 1)) (l k) _)) | (go_at_call 36; exact quiet_ext (cueIndex_any _ k _ l _ _ (by omega) (SS.out _))))))
        refine wpQuiet_nil ?_
        intro e1
        have hb1 := hbl2.trans (e1.below.mono hbl2.size)
        go_wp2_with fail
        go_ret
        exact ⟨ret_bool E.out.symm, hb1⟩
      · have E := Lib.hid (cues_bad hlt bad)
        have hf : 0 ≤ findTo l (l k).f0 k := Int.not_lt.1 (fun h => q2 ((find_neg k).1 h))
        clear bad q2
        by_cases q3 : 0 < k
        · obtain ⟨_, p0, p1, p2, p3, p4, p5⟩ := CP.out q3
          have hk1 : (1 : Int) ≤ k := by omega
          cases q4 : cueLtB (l (k - 1)) (l k)
          · have hqd := decide_eq_true (cmpC_ge q4)
            refine wp_region_ext (by kernel_rfl) (by kernel_rfl) ?_
            repeat (go_big_quiet_step ((first | (go_at_call 11; exact quiet_ext (implCue_l (l k) _ GK.out)) | (go_at_call 35; exact quiet_ext (compareCues_any (l (k - 1)) (l k) _)) | (go_at_call 36; exact quiet_ext (cueIndex_any _ k _ l _ _ (by omega) (SS.out _))))))
            refine wpQuiet_nil ?_
            intro e1
            have hb1 := hbl2.trans (e1.below.mono hbl2.size)
            go_wp2_with fail
            go_ret
            exact ⟨ret_bool E.out.symm, hb1⟩
          · have hq := cmpC_lt q4
            have hqd := decide_eq_false (show ¬ 0 ≤ cmpC (l (k - 1)) (l k) by omega)
            have hfd := decide_eq_true hf
            refine wp_region_ext (by kernel_rfl) (by kernel_rfl) ?_
            repeat (go_big_quiet_step ((first | (go_at_call 11; exact quiet_ext (implCue_l (l k) _ GK.out)) | (go_at_call 35; exact quiet_ext (compareCues_any (l (k - 1)) (l k) _)) | (go_at_call 36; exact quiet_ext (cueIndex_any _ k _ l _ _ (by omega) (SS.out _))))))
            refine wpQuiet_nil ?_
            intro e1
            have hb1 := hbl2.trans (e1.below.mono hbl2.size)
            go_wp2_with fail
            go_ret
            exact ⟨ret_bool E.out.symm, hb1⟩
        · have q3' : decide (0 < k) = false := by simp; omega
          have hfd := decide_eq_true hf
          refine wp_region_ext (by kernel_rfl) (by kernel_rfl) ?_
          repeat (go_big_quiet_step ((first | (go_at_call 11; exact quiet_ext (implCue_l (l k) _ GK.out)) | (go_at_call 35; exact quiet_ext (compareCues_any (l (k - 1)) (l k) _)) | (go_at_call 36; exact quiet_ext (cueIndex_any _ k _ l _ _ (by omega) (SS.out _))))))
          refine wpQuiet_nil ?_
          intro e1
          have hb1 := hbl2.trans (e1.below.mono hbl2.size)
          go_wp2_with fail
          go_ret
          exact ⟨ret_bool E.out.symm, hb1⟩
      · have E := Lib.hid (cues_bad hlt bad)
        obtain ⟨_, p0, p1, p2, p3, p4, p5⟩ := CP.out q3
        have hk1 : (1 : Int) ≤ k := by omega
        have hqd := decide_eq_true (cmpC_ge q4)
        clear bad q2
        refine wp_region_ext (by kernel_rfl) (by kernel_rfl) ?_
        repeat (go_big_quiet_step ((first | (go_at_call 11; exact quiet_ext (implCue_l (l k) _ GK.out)) | (go_at_call 35; exact quiet_ext (compareCues_any (l (k - 1)) (l k) _)) | (go_at_call 36; exact quiet_ext (cueIndex_any _ k _ l _ _ (by omega) (SS.out _))))))
        refine wpQuiet_nil ?_
        intro e1
        have hb1 := hbl2.trans (e1.below.mono hbl2.size)
        go_wp2_with fail
        go_ret
        exact ⟨ret_bool E.out.symm, hb1⟩
      · have HOK := Lib.hid (okAll HALL.out ok)
        obtain ⟨_, p0, p1, p2, p3, p4, p5⟩ := CP.out q3
        have hk1 : (1 : Int) ≤ k := by omega
        have hq := cmpC_lt q4
        have hqd := decide_eq_false (show ¬ 0 ≤ cmpC (l (k - 1)) (l k) by omega)
        have hf := (find_neg k).2 q2
        have hfd := decide_eq_false (show ¬ 0 ≤ findTo l (l k).f0 k by omega)
        clear ok q2
        refine wp_region_ext (by kernel_rfl) (by kernel_rfl) ?_
        repeat (go_big_quiet_step ((first | (go_at_call 11; exact quiet_ext (implCue_l (l k) _ GK.out)) | (go_at_call 35; exact quiet_ext (compareCues_any (l (k - 1)) (l k) _)) | (go_at_call 36; exact quiet_ext (cueIndex_any _ k _ l _ _ (by omega) (SS.out _))))))
        refine wpQuiet_nil ?_
        intro e1
        have hb1 := hbl2.trans (e1.below.mono hbl2.size)
        go_wp2_with fail
        go_roundw
        case rel => exact ⟨k + 1, by omega, by go_num, hb1, HOK.out⟩
        case measure => simp [intOf]; omega
      · have HOK := Lib.hid (okAll HALL.out ok)
        have q3' : decide (0 < k) = false := by simp; omega
        have hf := (find_neg k).2 q2
        have hfd := decide_eq_false (show ¬ 0 ≤ findTo l (l k).f0 k by omega)
        have HK0 := Lib.hid q3
        clear ok q2 q3
        refine wp_region_ext (by kernel_rfl) (by kernel_rfl) ?_
        repeat (go_big_quiet_step ((first | (go_at_call 11; exact quiet_ext (implCue_l (l k) _ GK.out)) | (go_at_call 35; exact quiet_ext (compareCues_any (l (k - 1)) (l k) _)) | (go_at_call 36; exact quiet_ext (cueIndex_any _ k _ l _ _ (by omega) (SS.out _))))))
        refine wpQuiet_nil ?_
        intro e1
        have hb1 := hbl2.trans (e1.below.mono hbl2.size)
        go_wp2_with fail
        go_roundw
        case rel => exact ⟨k + 1, by omega, by go_num, hb1, HOK.out⟩
        case measure => simp [intOf]; omega
    · have hkn : k = n := by omega
      subst hkn
      have E := Lib.hid (cuesB_yes (n := k) (l := l) ⟨h6, HALL.out⟩)
      go_wp2_with fail
      go_ret
      exact ⟨ret_bool E.out.symm, hbl⟩
end Go.Proofs.Ytikonccofaiceaa
