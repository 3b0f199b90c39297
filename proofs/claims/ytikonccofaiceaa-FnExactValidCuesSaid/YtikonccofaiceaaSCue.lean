/- The law file's own helpers over Cue: copying, sizing, comparing, marking. No condition beyond those stated. -/
import Derived.Test.YtikonccofaiceaaRows
import Derived.Test.YtikonccofaiceaaAppend
import Derived.Lib.SliceRun
namespace Go.Proofs.Ytikonccofaiceaa
open Go.RowKit Go.Lib Go.Ks

theorem toCue_any (x0 : ByteArray) (x1 : Int) (x2 : Int) (x3 : ByteArray) (x4 : Int) (x5 : Int) (w : World) :
    Calls Try.prog 10 #[.agg #[.string x0, .int .i64 x1, .int .i64 x2, .string x3, .int .i64 x4, .int .i64 x5]] w fun e w' => e = .returned (.agg #[.string x0, .int .i64 x1, .int .i64 x2, .string x3, .int .i64 x4, .int .i64 x5]) ∧ Below w.heap.size w w' := by
  go_enter Try.func10, Try.ntmps10
  go_wp2
  exact bodyPost_ret (v := .agg #[.string x0, .int .i64 x1, .int .i64 x2, .string x3, .int .i64 x4, .int .i64 x5]) (by simp [results, Try.results10, go_sem]) rfl ⟨rfl, by
    repeat (first | with_reducible exact Below.refl _ _ | with_reducible assumption | with_reducible refine Below.setCell ?_ (by simp <;> omega) _ | with_reducible refine Below.alloc ?_ (by simp <;> omega) _ | with_reducible refine Below.drew ?_)⟩

theorem szCue_any (x0 : ByteArray) (x1 : Int) (x2 : Int) (x3 : ByteArray) (x4 : Int) (x5 : Int) (left : Int) (h0 : x0.size ≤ 9223372036854775807) (h3 : x3.size ≤ 9223372036854775807) (hl : 0 ≤ left) (hl2 : left ≤ 1048576) (w : World) :
    Calls Try.prog 8 #[.agg #[.string x0, .int .i64 x1, .int .i64 x2, .string x3, .int .i64 x4, .int .i64 x5], .int .i64 left] w fun e w' => SzR left ((x0.size : Int) ≤ left ∧ (x3.size : Int) ≤ left) e ∧ Below w.heap.size w w' := by
  have q0 : (x0.size : Int) ≤ 9223372036854775807 := by omega
  have q3 : (x3.size : Int) ≤ 9223372036854775807 := by omega
  go_enter Try.func8, Try.ntmps8
  go_wp2
  all_goals go_ret
  all_goals refine ⟨?_, by repeat (first | with_reducible exact Below.refl _ _ | with_reducible assumption | with_reducible refine Below.setCell ?_ (by simp <;> omega) _ | with_reducible refine Below.alloc ?_ (by simp <;> omega) _ | with_reducible refine Below.drew ?_)⟩
  all_goals first | exact SzR.no _ _ | exact SzR.yes (by omega) (by omega) (by refine ⟨?_, ?_⟩ <;> omega) | exact SzR.yes (by omega) (by omega) (by omega)

set_option maxHeartbeats 800000 in
theorem szCueS_any (A : Option Addr) (n c : Nat) (l : Nat → CueD) (left : Int) (hn : n ≤ 9223372036854775807) (hl : 0 ≤ left) (hl2 : left ≤ 1048576) (w : World) (hs : Sl w A (n * 6) (CueC l))
    (hz : ∀ j, j < n → (l j).f0.size ≤ 9223372036854775807 ∧ (l j).f3.size ≤ 9223372036854775807) :
    Calls Try.prog 12 #[.slice A n c, .int .i64 left] w fun e w' => SzR left ((n : Int) ≤ left ∧ ∀ j, j < n → ((l j).f0.size : Int) ≤ left ∧ ((l j).f3.size : Int) ≤ left) e ∧ Below w.heap.size w w' := by
  have q : (n : Int) ≤ 9223372036854775807 := by omega
  have HZ := Lib.hid hz
  clear hz
  by_cases h0 : left - n < 0
  · go_enter Try.func12, Try.ntmps12
    go_wp2_with fail
    go_ret
    exact ⟨SzR.no _ _, Below.refl _ _⟩
  go_enter Try.func12, Try.ntmps12
  go_wp2_with fail
  go_loopw [1, 5] (fun t i wr => ∃ (k : Nat) (r : Int), k ≤ n ∧ i = .int .i64 k ∧ t = .int .i64 r ∧ 0 ≤ r ∧ r ≤ left ∧ Below w.heap.size w wr ∧ ∀ j, j < k → ((l j).f0.size : Int) ≤ left ∧ ((l j).f3.size : Int) ≤ left) (fun _ i _ => n - (intOf i).toNat)
  case atStart => exact ⟨0, left - n, Nat.zero_le _, rfl, rfl, by omega, by omega, Below.refl _ _, fun j hj => absurd hj (by omega)⟩
  case round =>
    obtain ⟨k, r, hk, rfl, rfl, hr0, hr1, hbl, hall⟩ := hrel
    have HALL := Lib.hid hall
    clear hall
    by_cases hlt : k < n
    · obtain ⟨b, off, rfl, hb, hc⟩ := hs (by omega)
      have d0 : wr.cell? ⟨b, off + k * 6, none⟩ = some (.string (l k).f0) := by rw [hbl.cell (by exact hb), hc _ (by omega), CueC0]
      have d1 : wr.cell? ⟨b, off + k * 6 + 1, none⟩ = some (.int .i64 (l k).f1) := by rw [hbl.cell (by exact hb), Nat.add_assoc, hc _ (by omega), CueC1]
      have d2 : wr.cell? ⟨b, off + k * 6 + 2, none⟩ = some (.int .i64 (l k).f2) := by rw [hbl.cell (by exact hb), Nat.add_assoc, hc _ (by omega), CueC2]
      have d3 : wr.cell? ⟨b, off + k * 6 + 3, none⟩ = some (.string (l k).f3) := by rw [hbl.cell (by exact hb), Nat.add_assoc, hc _ (by omega), CueC3]
      have d4 : wr.cell? ⟨b, off + k * 6 + 4, none⟩ = some (.int .i64 (l k).f4) := by rw [hbl.cell (by exact hb), Nat.add_assoc, hc _ (by omega), CueC4]
      have d5 : wr.cell? ⟨b, off + k * 6 + 5, none⟩ = some (.int .i64 (l k).f5) := by rw [hbl.cell (by exact hb), Nat.add_assoc, hc _ (by omega), CueC5]
      clear hc
      have hzk := HZ.out k hlt
      go_wp2_with fail
      refine (szCue_any _ _ _ _ _ _ _ hzk.1 hzk.2 hr0 (by omega) _).mono ?_
      rintro e w2 ⟨⟨r2, rfl, hr2⟩, hb2⟩
      have hbl2 := hbl.trans (hb2.mono hbl.size)
      rcases hr2 with rfl | ⟨g0, g1, g2⟩
      · go_wp2_with fail
        go_ret
        exact ⟨SzR.no _ _, hbl2⟩
      · go_wp2_with fail
        go_roundw
        case rel =>
          refine ⟨k + 1, r2, by omega, by go_num, rfl, g0, by omega, hbl2, fun j hj => ?_⟩
          rcases Nat.lt_or_ge j k with h | h
          · exact HALL.out j h
          · obtain rfl : j = k := by omega
            exact ⟨by omega, by omega⟩
        case measure => simp [intOf]; omega
    · go_wp2_with fail
      go_ret
      exact ⟨SzR.yes hr0 hr1 ⟨by omega, fun j hj => HALL.out j (by omega)⟩, hbl⟩

theorem Try.info26 : (Try.prog.info? 26).map (fun i => (i.zero, i.size, i.bytes)) = some (some (.agg #[.string ByteArray.empty, .int .i64 0, .int .i64 0, .string ByteArray.empty, .int .i64 0, .int .i64 0]), 6, 64) := by kernel_rfl
def zcCue : Nat → Value := rc 6 (fun i _ => match i with | 0 => .string ByteArray.empty | 1 => .int .i64 0 | 2 => .int .i64 0 | 3 => .string ByteArray.empty | 4 => .int .i64 0 | _ => .int .i64 0)
set_option maxHeartbeats 800000 in
theorem toCueS_any (A : Option Addr) (n c : Nat) (l : Nat → CueD) (w : World) (hn : n ≤ 1048576) (hs : Sl w A (n * 6) (CueC l)) :
    Calls Try.prog 14 #[.slice A n c] w fun e w' => e = .returned (.slice (some ⟨w.heap.size, 0, none⟩) n n) ∧ Below w.heap.size w w' ∧ Blk w' w.heap.size 26 (arr (n * 6) (CueC l)) := by
  obtain ⟨i0, hi, hz0, hz1, hz2⟩ := info_parts Try.info26
  have hmk := fun W => run_make_rowN (P := Try.prog) 32 26 i0 _ Try.underlying32 hi hz0 .i64 .i64 n n (Nat.le_refl _) (by rw [hz2]; omega) (by omega) W
  rw [hz1] at hmk
  have hn' : (n : Int) ≤ 1048576 := by omega
  go_enter Try.func14, Try.ntmps14
  go_wp2_with fail
  clear hmk
  go_loopw [4] (fun i wr => ∃ k : Nat, k ≤ n ∧ i = .int .i64 k ∧ Below w.heap.size w wr ∧ Blk wr w.heap.size 26 (arr (n * 6) (fun j => if j < k * 6 then CueC l j else zcCue j))) (fun i _ => n - (intOf i).toNat)
  case atStart =>
    refine ⟨0, Nat.zero_le _, rfl, ?_, ?_⟩
    · repeat (first | with_reducible exact Below.refl _ _ | with_reducible assumption | with_reducible refine Below.setCell ?_ (by simp <;> omega) _ | with_reducible refine Below.alloc ?_ (by simp <;> omega) _ | with_reducible refine Below.drew ?_)
    · have : arr (n * 6) (fun j => if j < 0 * 6 then CueC l j else zcCue j) = madeCells (Value.agg #[.string ByteArray.empty, .int .i64 0, .int .i64 0, .string ByteArray.empty, .int .i64 0, .int .i64 0]).cells (n * 6) := by
        rw [made_arr]
        apply arr_ext
        intro j _
        have hj : j % 6 < 6 := Nat.mod_lt _ (by decide)
        rw [if_neg (by omega)]
        unfold zcCue rc
        simp only [Value.cells]
        generalize j % 6 = m at hj
        match m, hj with
        | 0, _ => rfl
        | 1, _ => rfl
        | 2, _ => rfl
        | 3, _ => rfl
        | 4, _ => rfl
        | 5, _ => rfl
      rw [this]
      exact Blk.new _ _ _
  case round =>
    obtain ⟨k, hk, rfl, hbl, hblk⟩ := hrel
    by_cases hlt : k < n
    · obtain ⟨b, off, rfl, hb, hc⟩ := hs (by omega)
      have hbr : b < wr.heap.size := by have := hbl.size; omega
      have hgr : w.heap.size < wr.heap.size := hblk.lt
      have d0 : wr.cell? ⟨b, off + k * 6, none⟩ = some (.string (l k).f0) := by rw [hbl.cell (by exact hb), hc _ (by omega), CueC0]
      have d1 : wr.cell? ⟨b, off + k * 6 + 1, none⟩ = some (.int .i64 (l k).f1) := by rw [hbl.cell (by exact hb), Nat.add_assoc, hc _ (by omega), CueC1]
      have d2 : wr.cell? ⟨b, off + k * 6 + 2, none⟩ = some (.int .i64 (l k).f2) := by rw [hbl.cell (by exact hb), Nat.add_assoc, hc _ (by omega), CueC2]
      have d3 : wr.cell? ⟨b, off + k * 6 + 3, none⟩ = some (.string (l k).f3) := by rw [hbl.cell (by exact hb), Nat.add_assoc, hc _ (by omega), CueC3]
      have d4 : wr.cell? ⟨b, off + k * 6 + 4, none⟩ = some (.int .i64 (l k).f4) := by rw [hbl.cell (by exact hb), Nat.add_assoc, hc _ (by omega), CueC4]
      have d5 : wr.cell? ⟨b, off + k * 6 + 5, none⟩ = some (.int .i64 (l k).f5) := by rw [hbl.cell (by exact hb), Nat.add_assoc, hc _ (by omega), CueC5]
      clear hc
      go_wp2_with fail
      refine (toCue_any _ _ _ _ _ _ _).mono ?_
      rintro e w2 ⟨rfl, hb2⟩
      have hblk2 := hblk.below hb2 hgr
      have hg2 : w.heap.size < w2.heap.size := hblk2.lt
      have s0 : w2.cell? ⟨w.heap.size, k * 6, none⟩ = some (zcCue (k * 6)) := by rw [hblk2.cell, arr_get _ _ _ (by omega), if_neg (by omega)]
      have s1 : w2.cell? ⟨w.heap.size, k * 6 + 1, none⟩ = some (zcCue (k * 6 + 1)) := by rw [hblk2.cell, arr_get _ _ _ (by omega), if_neg (by omega)]
      have s2 : w2.cell? ⟨w.heap.size, k * 6 + 2, none⟩ = some (zcCue (k * 6 + 2)) := by rw [hblk2.cell, arr_get _ _ _ (by omega), if_neg (by omega)]
      have s3 : w2.cell? ⟨w.heap.size, k * 6 + 3, none⟩ = some (zcCue (k * 6 + 3)) := by rw [hblk2.cell, arr_get _ _ _ (by omega), if_neg (by omega)]
      have s4 : w2.cell? ⟨w.heap.size, k * 6 + 4, none⟩ = some (zcCue (k * 6 + 4)) := by rw [hblk2.cell, arr_get _ _ _ (by omega), if_neg (by omega)]
      have s5 : w2.cell? ⟨w.heap.size, k * 6 + 5, none⟩ = some (zcCue (k * 6 + 5)) := by rw [hblk2.cell, arr_get _ _ _ (by omega), if_neg (by omega)]
      have r0 : w2.frozen? ⟨w.heap.size, k * 6, none⟩ = false := hblk2.frozen _
      have r1 : w2.frozen? ⟨w.heap.size, k * 6 + 1, none⟩ = false := hblk2.frozen _
      have r2 : w2.frozen? ⟨w.heap.size, k * 6 + 2, none⟩ = false := hblk2.frozen _
      have r3 : w2.frozen? ⟨w.heap.size, k * 6 + 3, none⟩ = false := hblk2.frozen _
      have r4 : w2.frozen? ⟨w.heap.size, k * 6 + 4, none⟩ = false := hblk2.frozen _
      have r5 : w2.frozen? ⟨w.heap.size, k * 6 + 5, none⟩ = false := hblk2.frozen _
      go_wp2_with fail
      go_roundw
      case rel =>
        refine ⟨k + 1, by omega, by go_num, ?_, ?_⟩
        · have hbl2 := hbl.trans (hb2.mono hbl.size)
          repeat (first | with_reducible exact Below.refl _ _ | with_reducible assumption | with_reducible refine Below.setCell ?_ (by simp <;> omega) _ | with_reducible refine Below.alloc ?_ (by simp <;> omega) _ | with_reducible refine Below.drew ?_)
        · have h := hblk2.set_ (k * 6) (.string (l k).f0)
          have h := h.set_ (k * 6 + 1) (.int .i64 (l k).f1)
          have h := h.set_ (k * 6 + 2) (.int .i64 (l k).f2)
          have h := h.set_ (k * 6 + 3) (.string (l k).f3)
          have h := h.set_ (k * 6 + 4) (.int .i64 (l k).f4)
          have h := h.set_ (k * 6 + 5) (.int .i64 (l k).f5)
          rw [arr_set, arr_set, arr_set, arr_set, arr_set, arr_set] at h
          exact to_step6 h (CueC0 l k) (CueC1 l k) (CueC2 l k) (CueC3 l k) (CueC4 l k) (CueC5 l k)
      case measure => simp [intOf]; omega
    · go_wp2_with fail
      go_ret
      have : k = n := by omega
      subst this
      exact ⟨rfl, hbl, hblk.congr (fun j hj => if_pos hj)⟩

theorem eqCue_yes (x0 : ByteArray) (x1 : Int) (x2 : Int) (x3 : ByteArray) (x4 : Int) (x5 : Int) (w : World) :
    Calls Try.prog 33 #[.agg #[.string x0, .int .i64 x1, .int .i64 x2, .string x3, .int .i64 x4, .int .i64 x5], .agg #[.string x0, .int .i64 x1, .int .i64 x2, .string x3, .int .i64 x4, .int .i64 x5]] w fun e w' => e = .returned (.bool true) ∧ Below w.heap.size w w' := by
  go_enter Try.func33, Try.ntmps33
  go_wp2
  go_ret
  exact ⟨rfl, by repeat (first | with_reducible exact Below.refl _ _ | with_reducible assumption | with_reducible refine Below.setCell ?_ (by simp <;> omega) _ | with_reducible refine Below.alloc ?_ (by simp <;> omega) _ | with_reducible refine Below.drew ?_)⟩

set_option maxHeartbeats 800000 in
theorem eqCueS_yes (A A' : Option Addr) (n c c' : Nat) (l : Nat → CueD) (w : World) (hn : n ≤ 9223372036854775807) (hs : Sl w A (n * 6) (CueC l)) (hs' : Sl w A' (n * 6) (CueC l)) :
    Calls Try.prog 16 #[.slice A n c, .slice A' n c'] w fun e w' => e = .returned (.bool true) ∧ Below w.heap.size w w' := by
  have hn' : (n : Int) ≤ 9223372036854775807 := by omega
  go_enter Try.func16, Try.ntmps16
  go_wp2_with fail
  go_loopw [5] (fun i wr => ∃ k : Nat, k ≤ n ∧ i = .int .i64 k ∧ Below w.heap.size w wr) (fun i _ => n - (intOf i).toNat)
  case atStart => exact ⟨0, Nat.zero_le _, rfl, Below.refl _ _⟩
  case round =>
    obtain ⟨k, hk, rfl, hbl⟩ := hrel
    by_cases hlt : k < n
    · obtain ⟨b, off, rfl, hb, hc⟩ := hs (by omega)
      obtain ⟨b', off', rfl, hb', hc'⟩ := hs' (by omega)
      have hbr : b < wr.heap.size := by have := hbl.size; omega
      have hbr' : b' < wr.heap.size := by have := hbl.size; omega
      have d0 : wr.cell? ⟨b, off + k * 6, none⟩ = some (.string (l k).f0) := by rw [hbl.cell (by exact hb), hc _ (by omega), CueC0]
      have d1 : wr.cell? ⟨b, off + k * 6 + 1, none⟩ = some (.int .i64 (l k).f1) := by rw [hbl.cell (by exact hb), Nat.add_assoc, hc _ (by omega), CueC1]
      have d2 : wr.cell? ⟨b, off + k * 6 + 2, none⟩ = some (.int .i64 (l k).f2) := by rw [hbl.cell (by exact hb), Nat.add_assoc, hc _ (by omega), CueC2]
      have d3 : wr.cell? ⟨b, off + k * 6 + 3, none⟩ = some (.string (l k).f3) := by rw [hbl.cell (by exact hb), Nat.add_assoc, hc _ (by omega), CueC3]
      have d4 : wr.cell? ⟨b, off + k * 6 + 4, none⟩ = some (.int .i64 (l k).f4) := by rw [hbl.cell (by exact hb), Nat.add_assoc, hc _ (by omega), CueC4]
      have d5 : wr.cell? ⟨b, off + k * 6 + 5, none⟩ = some (.int .i64 (l k).f5) := by rw [hbl.cell (by exact hb), Nat.add_assoc, hc _ (by omega), CueC5]
      have d'0 : wr.cell? ⟨b', off' + k * 6, none⟩ = some (.string (l k).f0) := by rw [hbl.cell (by exact hb'), hc' _ (by omega), CueC0]
      have d'1 : wr.cell? ⟨b', off' + k * 6 + 1, none⟩ = some (.int .i64 (l k).f1) := by rw [hbl.cell (by exact hb'), Nat.add_assoc, hc' _ (by omega), CueC1]
      have d'2 : wr.cell? ⟨b', off' + k * 6 + 2, none⟩ = some (.int .i64 (l k).f2) := by rw [hbl.cell (by exact hb'), Nat.add_assoc, hc' _ (by omega), CueC2]
      have d'3 : wr.cell? ⟨b', off' + k * 6 + 3, none⟩ = some (.string (l k).f3) := by rw [hbl.cell (by exact hb'), Nat.add_assoc, hc' _ (by omega), CueC3]
      have d'4 : wr.cell? ⟨b', off' + k * 6 + 4, none⟩ = some (.int .i64 (l k).f4) := by rw [hbl.cell (by exact hb'), Nat.add_assoc, hc' _ (by omega), CueC4]
      have d'5 : wr.cell? ⟨b', off' + k * 6 + 5, none⟩ = some (.int .i64 (l k).f5) := by rw [hbl.cell (by exact hb'), Nat.add_assoc, hc' _ (by omega), CueC5]
      clear hc hc'
      go_wp2_with fail
      refine wp_region_ext (by kernel_rfl) (by kernel_rfl) ?_
      repeat (go_big_quiet_step ((go_at_call 33; exact quiet_ext (eqCue_yes _ _ _ _ _ _ _))))
      refine wpQuiet_nil ?_
      intro e1
      have hb1 := e1.below
      go_wp2_with fail
      go_roundw
      case rel => exact ⟨k + 1, by omega, by go_num, hbl.trans (hb1.mono hbl.size)⟩
      case measure => simp [intOf]; omega
    · go_wp2_with fail
      go_ret
      exact ⟨rfl, hbl⟩

end Go.Proofs.Ytikonccofaiceaa
