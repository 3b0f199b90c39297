/- Curves: what the validity test of the program and that of the reference answer. Conditions: the slice reads as n knots. -/
import Derived.Test.YthjllledhcfnhaaGreatDoorRows
import Derived.Test.YthjllledhcfnhaaGreatDoorBase
import Derived.Test.YthjllledhcfnhaaGreatDoorSmall
namespace Go.Proofs.YthjllledhcfnhaaGreatDoor
open Go.RowKit Go.Lib Go.Ks

theorem l12Level_any (n : Int) (w : World) :
    Calls Tryz.prog 76 #[.int .i64 n] w fun e w' => e = .returned (.bool (inB n 0 1000)) ∧ Below w.heap.size w w' := by
  go_enter Tryz.func76, Tryz.ntmps76
  go_wp2_with fail
  refine (l00In_any _ _ _ _).mono ?_
  rintro e w1 ⟨rfl, hb⟩
  go_wp2_with fail
  go_ret
  exact ⟨rfl, hb⟩
theorem isLevel_any (n : Int) (w : World) :
    Calls Tryz.prog 36 #[.int .i64 n] w fun e w' => e = .returned (.bool (inB n 0 1000)) ∧ Below w.heap.size w w' := by
  go_enter Tryz.func36, Tryz.ntmps36
  go_wp2_with fail
  refine (within_any _ _ _ _).mono ?_
  rintro e w1 ⟨rfl, hb⟩
  go_wp2_with fail
  go_ret
  exact ⟨rfl, hb⟩

set_option maxHeartbeats 1000000 in
theorem l12Ok_any (A : Option Addr) (n c : Nat) (l : Nat → KnotD) (w : World) (hn2 : n ≤ 1048576) (hs : Sl w A (n * 2) (KnotC l)) :
    Calls Tryz.prog 38 #[.slice A n c] w fun e w' => e = .returned (.bool (curveOk n l)) ∧ Below w.heap.size w w' := by
  by_cases h2 : n < 2
  · go_enter Tryz.func38, Tryz.ntmps38
    go_wp2_with fail
    go_ret
    exact ⟨ret_bool (curveOk_no (fun h => by have := h.1; omega)).symm, Below.refl _ _⟩
  by_cases h16 : 16 < n
  · go_enter Tryz.func38, Tryz.ntmps38
    go_wp2_with fail
    go_ret
    exact ⟨ret_bool (curveOk_no (fun h => by have := h.2.1; omega)).symm, Below.refl _ _⟩
  obtain ⟨b, off, rfl, hb, hc⟩ := hs (by omega)
  have c0 : w.cell? ⟨b, off, none⟩ = some (.int .i64 (l 0).f0) := (hc 0 (by omega)).trans (congrArg some (KnotC0 l 0))
  have c9 : w.cell? ⟨b, off + (n - 1) * 2, none⟩ = some (.int .i64 (l (n - 1)).f0) := (hc _ (by omega)).trans (congrArg some (KnotC0 l (n - 1)))
  by_cases g0 : (l 0).f0 = 0
  rotate_left
  · have g0' : ((l 0).f0 != 0) = true := by simpa using g0
    go_enter Tryz.func38, Tryz.ntmps38
    go_wp2_with fail
    go_ret
    exact ⟨ret_bool (curveOk_no (fun h => g0 h.2.2.1)).symm, Below.refl _ _⟩
  by_cases g9 : (l (n - 1)).f0 = 1000
  rotate_left
  · have g0' : ((l 0).f0 != 0) = false := by simpa using g0
    have g9' : ((l (n - 1)).f0 != 1000) = true := by simpa using g9
    go_enter Tryz.func38, Tryz.ntmps38
    go_wp2_with fail
    go_ret
    exact ⟨ret_bool (curveOk_no (fun h => g9 h.2.2.2.1)).symm, Below.refl _ _⟩
  have g0' : ((l 0).f0 != 0) = false := by simpa using g0
  have g9' : ((l (n - 1)).f0 != 1000) = false := by simpa using g9
  have G0 := Lib.hid g0
  have G9 := Lib.hid g9
  clear g0 g9
  go_enter Tryz.func38, Tryz.ntmps38
  go_wp2_with fail
  clear c0 c9 g0' g9'
  go_loopw [4] (fun i wr => ∃ k : Nat, k ≤ n ∧ i = .int .i64 k ∧ Below w.heap.size w wr ∧ ∀ j, j < k → okAt l j) (fun i _ => n - (intOf i).toNat)
  case atStart => exact ⟨0, Nat.zero_le _, rfl, Below.refl _ _, fun j hj => absurd hj (by omega)⟩
  case round =>
    obtain ⟨k, hk, rfl, hbl, hall⟩ := hrel
    have HALL := Lib.hid hall
    clear hall
    by_cases hlt : k < n
    · have d0 : wr.cell? ⟨b, off + k * 2, none⟩ = some (.int .i64 (l k).f0) := by rw [hbl.cell (by exact hb), hc _ (by omega), KnotC0]
      have d1 : wr.cell? ⟨b, off + k * 2 + 1, none⟩ = some (.int .i64 (l k).f1) := by rw [hbl.cell (by exact hb), Nat.add_assoc, hc _ (by omega), KnotC1]
      have hbr : b < wr.heap.size := by have := hbl.size; omega
      by_cases q1 : inB (l k).f1 0 1000 = true
      rotate_left
      · have q1' : inB (l k).f1 0 1000 = false := by simpa using q1
        clear q1 hc
        go_wp2_with fail
        refine wp_region_ext (by kernel_rfl) (by kernel_rfl) ?_
        repeat (go_big_quiet_step ((go_at_call 76; exact quiet_ext (l12Level_any _ _))))
        refine wpQuiet_nil ?_
        intro e1
        have hb1 := e1.below
        go_wp2_with fail
        go_ret
        exact ⟨ret_bool (curveOk_no (fun h => by have := (h.2.2.2.2 k hlt).1; rw [q1'] at this; cases this)).symm, hbl.trans (hb1.mono hbl.size)⟩
      by_cases q2 : 0 < k
      rotate_left
      · have q2' : decide (0 < k) = false := by simpa using q2
        clear hc
        go_wp2_with fail
        refine wp_region_ext (by kernel_rfl) (by kernel_rfl) ?_
        repeat (go_big_quiet_step ((go_at_call 76; exact quiet_ext (l12Level_any _ _))))
        refine wpQuiet_nil ?_
        intro e1
        have hb1 := e1.below
        go_wp2_with fail
        go_roundw
        case rel => exact ⟨k + 1, by omega, by go_num, hbl.trans (hb1.mono hbl.size), okAll HALL.out ⟨q1, fun h => absurd h q2⟩⟩
        case measure => simp [intOf]; omega
      have p0 : wr.cell? ⟨b, off + (k - 1) * 2, none⟩ = some (.int .i64 (l (k - 1)).f0) := by rw [hbl.cell (by exact hb), hc _ (by omega), KnotC0]
      have p1 : wr.cell? ⟨b, off + (k - 1) * 2 + 1, none⟩ = some (.int .i64 (l (k - 1)).f1) := by rw [hbl.cell (by exact hb), Nat.add_assoc, hc _ (by omega), KnotC1]
      clear hc
      have hk1 : (1 : Int) ≤ k := by omega
      by_cases q3 : (l (k - 1)).f0 < (l k).f0
      rotate_left
      · have q3' : decide ((l k).f0 ≤ (l (k - 1)).f0) = true := by simpa using q3
        have Q3 := Lib.hid q3
        clear q3
        go_wp2_with fail
        refine wp_region_ext (by kernel_rfl) (by kernel_rfl) ?_
        repeat (go_big_quiet_step ((go_at_call 76; exact quiet_ext (l12Level_any _ _))))
        refine wpQuiet_nil ?_
        intro e1
        have hb1 := e1.below
        go_wp2_with fail
        go_ret
        exact ⟨ret_bool (curveOk_no (fun h => by have h1 := ((h.2.2.2.2 k hlt).2 q2).1; have h2 := Q3.out; omega)).symm, hbl.trans (hb1.mono hbl.size)⟩
      have q3' : decide ((l k).f0 ≤ (l (k - 1)).f0) = false := by simpa using q3
      have Q3 := Lib.hid q3
      clear q3
      by_cases q4 : (l (k - 1)).f1 ≤ (l k).f1
      rotate_left
      · have Q4 := Lib.hid q4
        go_wp2_with fail
        refine wp_region_ext (by kernel_rfl) (by kernel_rfl) ?_
        repeat (go_big_quiet_step ((go_at_call 76; exact quiet_ext (l12Level_any _ _))))
        refine wpQuiet_nil ?_
        intro e1
        have hb1 := e1.below
        go_wp2_with fail
        go_ret
        exact ⟨ret_bool (curveOk_no (fun h => by have h1 := ((h.2.2.2.2 k hlt).2 q2).2; have h2 := Q4.out; omega)).symm, hbl.trans (hb1.mono hbl.size)⟩
      · have Q4 := Lib.hid q4
        go_wp2_with fail
        refine wp_region_ext (by kernel_rfl) (by kernel_rfl) ?_
        repeat (go_big_quiet_step ((go_at_call 76; exact quiet_ext (l12Level_any _ _))))
        refine wpQuiet_nil ?_
        intro e1
        have hb1 := e1.below
        go_wp2_with fail
        go_roundw
        case rel => exact ⟨k + 1, by omega, by go_num, hbl.trans (hb1.mono hbl.size), okAll HALL.out ⟨q1, fun _ => ⟨Q3.out, Q4.out⟩⟩⟩
        case measure => simp [intOf]; omega
    · go_wp2_with fail
      go_ret
      exact ⟨ret_bool (curveOk_yes ⟨by omega, by omega, G0.out, G9.out, fun j hj => HALL.out j (by omega)⟩).symm, hbl⟩

set_option maxHeartbeats 1000000 in
theorem validCurve_any (A : Option Addr) (n c : Nat) (l : Nat → KnotD) (w : World) (hn2 : n ≤ 1048576) (hs : Sl w A (n * 2) (KnotC l)) (_hg : ∀ k, k < n → KnotOk (l k)) :
    Calls Tryz.prog 35 #[.slice A n c] w fun e w' => e = .returned (.bool (curveOk n l)) ∧ Below w.heap.size w w' := by
  have hn3 : (n : Int) ≤ 1048576 := by omega
  by_cases h2 : 2 ≤ n ∧ n ≤ 16
  rotate_left
  · have i1 : inB n 2 16 = false := inB_no.2 (by omega)
    go_enter Tryz.func35, Tryz.ntmps35
    go_wp2_with fail
    refine (within_any _ _ _ _).mono ?_
    rintro e w1 ⟨rfl, hb⟩
    go_wp2_with fail
    go_ret
    exact ⟨ret_bool (curveOk_no (fun h => by have := h.1; have := h.2.1; omega)).symm, hb⟩
  have i1 : inB n 2 16 = true := inB_iff.2 (by omega)
  have hn4 : (2 : Int) ≤ n := by omega
  obtain ⟨b, off, rfl, hb, hc⟩ := hs (by omega)
  have c0 : w.cell? ⟨b, off, none⟩ = some (.int .i64 (l 0).f0) := (hc 0 (by omega)).trans (congrArg some (KnotC0 l 0))
  have c9 : w.cell? ⟨b, off + (n - 1) * 2, none⟩ = some (.int .i64 (l (n - 1)).f0) := (hc _ (by omega)).trans (congrArg some (KnotC0 l (n - 1)))
  by_cases g0 : (l 0).f0 = 0
  rotate_left
  · have g0' : ((l 0).f0 != 0) = true := by simpa using g0
    go_enter Tryz.func35, Tryz.ntmps35
    go_wp2_with fail
    refine (within_any _ _ _ _).mono ?_
    rintro e w1 ⟨rfl, hb1⟩
    obtain ⟨hcc, hff⟩ := bcell hb1
    go_wp2_with fail
    go_ret
    exact ⟨ret_bool (curveOk_no (fun h => g0 h.2.2.1)).symm, hb1⟩
  by_cases g9 : (l (n - 1)).f0 = 1000
  rotate_left
  · have g0' : ((l 0).f0 != 0) = false := by simpa using g0
    have g9' : ((l (n - 1)).f0 != 1000) = true := by simpa using g9
    go_enter Tryz.func35, Tryz.ntmps35
    go_wp2_with fail
    refine (within_any _ _ _ _).mono ?_
    rintro e w1 ⟨rfl, hb1⟩
    obtain ⟨hcc, hff⟩ := bcell hb1
    go_wp2_with fail
    go_ret
    exact ⟨ret_bool (curveOk_no (fun h => g9 h.2.2.2.1)).symm, hb1⟩
  have g0' : ((l 0).f0 != 0) = false := by simpa using g0
  have g9' : ((l (n - 1)).f0 != 1000) = false := by simpa using g9
  have G0 := Lib.hid g0
  have G9 := Lib.hid g9
  have H2 := Lib.hid h2
  clear g0 g9 h2
  go_enter Tryz.func35, Tryz.ntmps35
  go_wp2_with fail
  refine (within_any _ _ _ _).mono ?_
  rintro e w1 ⟨rfl, hb1⟩
  obtain ⟨hcc, hff⟩ := bcell hb1
  go_wp2_with fail
  clear c0 c9 g0' g9' hcc hff i1
  go_loopw [28] (fun i wr => ∃ k : Nat, k ≤ n ∧ i = .int .i64 k ∧ Below w.heap.size w wr ∧ ∀ j, j < k → okAt l j) (fun i _ => n - (intOf i).toNat)
  case atStart => exact ⟨0, Nat.zero_le _, rfl, hb1, fun j hj => absurd hj (by omega)⟩
  case round =>
    obtain ⟨k, hk, rfl, hbl, hall⟩ := hrel
    have HALL := Lib.hid hall
    clear hall
    by_cases hlt : k < n
    · have d0 : wr.cell? ⟨b, off + k * 2, none⟩ = some (.int .i64 (l k).f0) := by rw [hbl.cell (by exact hb), hc _ (by omega), KnotC0]
      have d1 : wr.cell? ⟨b, off + k * 2 + 1, none⟩ = some (.int .i64 (l k).f1) := by rw [hbl.cell (by exact hb), Nat.add_assoc, hc _ (by omega), KnotC1]
      have hbr : b < wr.heap.size := by have := hbl.size; omega
      have hbr2 : b < wr.heap.size + 1 := by omega
      have hal : Below w.heap.size w (wr.alloc (.cells #[.int .i64 (l k).f0, .int .i64 (l k).f1] 76)) := hbl.alloc hbl.size _
      have hsz : w.heap.size ≤ (wr.alloc (.cells #[.int .i64 (l k).f0, .int .i64 (l k).f1] 76)).heap.size := hal.size
      by_cases q1 : inB (l k).f1 0 1000 = true
      rotate_left
      · have q1' : inB (l k).f1 0 1000 = false := by simpa using q1
        clear q1 hc
        go_wp2_with fail
        refine wp_region_ext (by kernel_rfl) (by kernel_rfl) ?_
        repeat (go_big_quiet_step ((go_at_call 36; exact quiet_ext (isLevel_any _ _))))
        refine wpQuiet_nil ?_
        intro e1
        have hb1 := hal.trans (e1.below.mono hsz)
        go_wp2_with fail
        go_ret
        exact ⟨ret_bool (curveOk_no (fun h => by have := (h.2.2.2.2 k hlt).1; rw [q1'] at this; cases this)).symm, hb1⟩
      by_cases q2 : 0 < k
      rotate_left
      · have q2' : decide (0 < k) = false := by simpa using q2
        clear hc
        go_wp2_with fail
        refine wp_region_ext (by kernel_rfl) (by kernel_rfl) ?_
        repeat (go_big_quiet_step ((go_at_call 36; exact quiet_ext (isLevel_any _ _))))
        refine wpQuiet_nil ?_
        intro e1
        have hb1 := hal.trans (e1.below.mono hsz)
        go_wp2_with fail
        go_roundw
        case rel => exact ⟨k + 1, by omega, by go_num, hb1, okAll HALL.out ⟨q1, fun h => absurd h q2⟩⟩
        case measure => simp [intOf]; omega
      have p0 : wr.cell? ⟨b, off + (k - 1) * 2, none⟩ = some (.int .i64 (l (k - 1)).f0) := by rw [hbl.cell (by exact hb), hc _ (by omega), KnotC0]
      have p1 : wr.cell? ⟨b, off + (k - 1) * 2 + 1, none⟩ = some (.int .i64 (l (k - 1)).f1) := by rw [hbl.cell (by exact hb), Nat.add_assoc, hc _ (by omega), KnotC1]
      clear hc
      have hk1 : (1 : Int) ≤ k := by omega
      by_cases q3 : (l (k - 1)).f0 < (l k).f0
      rotate_left
      · have q3' : decide ((l k).f0 ≤ (l (k - 1)).f0) = true := by simpa using q3
        have Q3 := Lib.hid q3
        clear q3
        go_wp2_with fail
        refine wp_region_ext (by kernel_rfl) (by kernel_rfl) ?_
        repeat (go_big_quiet_step ((go_at_call 36; exact quiet_ext (isLevel_any _ _))))
        refine wpQuiet_nil ?_
        intro e1
        have hb1 := hal.trans (e1.below.mono hsz)
        go_wp2_with fail
        go_ret
        exact ⟨ret_bool (curveOk_no (fun h => by have h1 := ((h.2.2.2.2 k hlt).2 q2).1; have h2 := Q3.out; omega)).symm, hb1⟩
      have q3' : decide ((l k).f0 ≤ (l (k - 1)).f0) = false := by simpa using q3
      have Q3 := Lib.hid q3
      clear q3
      by_cases q4 : (l (k - 1)).f1 ≤ (l k).f1
      rotate_left
      · have Q4 := Lib.hid q4
        go_wp2_with fail
        refine wp_region_ext (by kernel_rfl) (by kernel_rfl) ?_
        repeat (go_big_quiet_step ((go_at_call 36; exact quiet_ext (isLevel_any _ _))))
        refine wpQuiet_nil ?_
        intro e1
        have hb1 := hal.trans (e1.below.mono hsz)
        go_wp2_with fail
        go_ret
        exact ⟨ret_bool (curveOk_no (fun h => by have h1 := ((h.2.2.2.2 k hlt).2 q2).2; have h2 := Q4.out; omega)).symm, hb1⟩
      · have Q4 := Lib.hid q4
        go_wp2_with fail
        refine wp_region_ext (by kernel_rfl) (by kernel_rfl) ?_
        repeat (go_big_quiet_step ((go_at_call 36; exact quiet_ext (isLevel_any _ _))))
        refine wpQuiet_nil ?_
        intro e1
        have hb1 := hal.trans (e1.below.mono hsz)
        go_wp2_with fail
        go_roundw
        case rel => exact ⟨k + 1, by omega, by go_num, hb1, okAll HALL.out ⟨q1, fun _ => ⟨Q3.out, Q4.out⟩⟩⟩
        case measure => simp [intOf]; omega
    · go_wp2_with fail
      go_ret
      exact ⟨ret_bool (curveOk_yes ⟨H2.out.1, H2.out.2, G0.out, G9.out, fun j hj => HALL.out j (by omega)⟩).symm, hbl⟩

theorem specValidCurve_any (A : Option Addr) (n c : Nat) (l : Nat → KnotD) (w : World) (hn2 : n ≤ 1048576) (hs : Sl w A (n * 2) (KnotC l)) (_hg : ∀ k, k < n → KnotOk (l k)) :
    Calls Tryz.prog 9 #[.slice A n c] w fun e w' => e = .returned (.bool (curveOk n l)) ∧ Below w.heap.size w w' := by
  go_enter Tryz.func9, Tryz.ntmps9
  go_wp2_with fail
  refine (l12Ok_any _ _ _ l _ hn2 hs).mono ?_
  rintro e w1 ⟨rfl, hb⟩
  go_wp2_with fail
  go_ret
  exact ⟨rfl, hb⟩
end Go.Proofs.YthjllledhcfnhaaGreatDoor
