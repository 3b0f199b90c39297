/- The law file's own helpers over Mask: copying, sizing, comparing, marking. No condition beyond those stated. -/
import Derived.Test.YtjomlcjchndkeaaRows
import Derived.Test.YtjomlcjchndkeaaAppend
import Derived.Lib.SliceRun
namespace Go.Proofs.Ytjomlcjchndkeaa
open Go.RowKit Go.Lib Go.Ks

theorem toMask_any (x0 : Int) (x1 : Int) (x2 : Int) (x3 : Int) (x4 : Int) (w : World) :
    Calls Try.prog 59 #[.agg #[.int .i64 x0, .int .i64 x1, .int .i64 x2, .int .i64 x3, .int .i64 x4]] w fun e w' => e = .returned (.agg #[.int .i64 x0, .int .i64 x1, .int .i64 x2, .int .i64 x3, .int .i64 x4]) ∧ Below w.heap.size w w' := by
  go_enter Try.func59, Try.ntmps59
  go_wp2
  exact bodyPost_ret (v := .agg #[.int .i64 x0, .int .i64 x1, .int .i64 x2, .int .i64 x3, .int .i64 x4]) (by simp [results, Try.results59, go_sem]) rfl ⟨rfl, by
    repeat (first | with_reducible exact Below.refl _ _ | with_reducible assumption | with_reducible refine Below.setCell ?_ (by simp <;> omega) _ | with_reducible refine Below.alloc ?_ (by simp <;> omega) _ | with_reducible refine Below.drew ?_)⟩

theorem szMaskS_any (A : Option Addr) (n c : Nat) (left : Int) (hn : n ≤ 9223372036854775807) (hl : 0 ≤ left) (hl2 : left ≤ 1048576) (w : World) :
    Calls Try.prog 34 #[.slice A n c, .int .i64 left] w fun e w' => SzR left ((n : Int) ≤ left) e ∧ Below w.heap.size w w' := by
  have q : (n : Int) ≤ 9223372036854775807 := by omega
  go_enter Try.func34, Try.ntmps34
  go_wp2
  all_goals go_ret
  all_goals refine ⟨?_, by repeat (first | with_reducible exact Below.refl _ _ | with_reducible assumption | with_reducible refine Below.setCell ?_ (by simp <;> omega) _ | with_reducible refine Below.alloc ?_ (by simp <;> omega) _ | with_reducible refine Below.drew ?_)⟩
  all_goals first | exact SzR.no _ _ | exact SzR.yes (by omega) (by omega) (by omega)

theorem Try.info71 : (Try.prog.info? 71).map (fun i => (i.zero, i.size, i.bytes)) = some (some (.agg #[.int .i64 0, .int .i64 0, .int .i64 0, .int .i64 0, .int .i64 0]), 5, 40) := by kernel_rfl
def zcMask : Nat → Value := rc 5 (fun i _ => match i with | 0 => .int .i64 0 | 1 => .int .i64 0 | 2 => .int .i64 0 | 3 => .int .i64 0 | _ => .int .i64 0)
set_option maxHeartbeats 800000 in
theorem toMaskS_any (A : Option Addr) (n c : Nat) (l : Nat → MaskD) (w : World) (hn : n ≤ 1048576) (hs : Sl w A (n * 5) (MaskC l)) :
    Calls Try.prog 36 #[.slice A n c] w fun e w' => e = .returned (.slice (some ⟨w.heap.size, 0, none⟩) n n) ∧ Below w.heap.size w w' ∧ Blk w' w.heap.size 71 (arr (n * 5) (MaskC l)) := by
  obtain ⟨i0, hi, hz0, hz1, hz2⟩ := info_parts Try.info71
  have hmk := fun W => run_make_rowN (P := Try.prog) 51 71 i0 _ Try.underlying51 hi hz0 .i64 .i64 n n (Nat.le_refl _) (by rw [hz2]; omega) (by omega) W
  rw [hz1] at hmk
  have hn' : (n : Int) ≤ 1048576 := by omega
  go_enter Try.func36, Try.ntmps36
  go_wp2_with fail
  clear hmk
  go_loopw [4] (fun i wr => ∃ k : Nat, k ≤ n ∧ i = .int .i64 k ∧ Below w.heap.size w wr ∧ Blk wr w.heap.size 71 (arr (n * 5) (fun j => if j < k * 5 then MaskC l j else zcMask j))) (fun i _ => n - (intOf i).toNat)
  case atStart =>
    refine ⟨0, Nat.zero_le _, rfl, ?_, ?_⟩
    · repeat (first | with_reducible exact Below.refl _ _ | with_reducible assumption | with_reducible refine Below.setCell ?_ (by simp <;> omega) _ | with_reducible refine Below.alloc ?_ (by simp <;> omega) _ | with_reducible refine Below.drew ?_)
    · have : arr (n * 5) (fun j => if j < 0 * 5 then MaskC l j else zcMask j) = madeCells (Value.agg #[.int .i64 0, .int .i64 0, .int .i64 0, .int .i64 0, .int .i64 0]).cells (n * 5) := by
        rw [made_arr]
        apply arr_ext
        intro j _
        have hj : j % 5 < 5 := Nat.mod_lt _ (by decide)
        rw [if_neg (by omega)]
        unfold zcMask rc
        simp only [Value.cells]
        generalize j % 5 = m at hj
        match m, hj with
        | 0, _ => rfl
        | 1, _ => rfl
        | 2, _ => rfl
        | 3, _ => rfl
        | 4, _ => rfl
      rw [this]
      exact Blk.new _ _ _
  case round =>
    obtain ⟨k, hk, rfl, hbl, hblk⟩ := hrel
    by_cases hlt : k < n
    · obtain ⟨b, off, rfl, hb, hc⟩ := hs (by omega)
      have hbr : b < wr.heap.size := by have := hbl.size; omega
      have hgr : w.heap.size < wr.heap.size := hblk.lt
      have d0 : wr.cell? ⟨b, off + k * 5, none⟩ = some (.int .i64 (l k).f0) := by rw [hbl.cell (by exact hb), hc _ (by omega), MaskC0]
      have d1 : wr.cell? ⟨b, off + k * 5 + 1, none⟩ = some (.int .i64 (l k).f1) := by rw [hbl.cell (by exact hb), Nat.add_assoc, hc _ (by omega), MaskC1]
      have d2 : wr.cell? ⟨b, off + k * 5 + 2, none⟩ = some (.int .i64 (l k).f2) := by rw [hbl.cell (by exact hb), Nat.add_assoc, hc _ (by omega), MaskC2]
      have d3 : wr.cell? ⟨b, off + k * 5 + 3, none⟩ = some (.int .i64 (l k).f3) := by rw [hbl.cell (by exact hb), Nat.add_assoc, hc _ (by omega), MaskC3]
      have d4 : wr.cell? ⟨b, off + k * 5 + 4, none⟩ = some (.int .i64 (l k).f4) := by rw [hbl.cell (by exact hb), Nat.add_assoc, hc _ (by omega), MaskC4]
      clear hc
      go_wp2_with fail
      refine (toMask_any _ _ _ _ _ _).mono ?_
      rintro e w2 ⟨rfl, hb2⟩
      have hblk2 := hblk.below hb2 hgr
      have hg2 : w.heap.size < w2.heap.size := hblk2.lt
      have s0 : w2.cell? ⟨w.heap.size, k * 5, none⟩ = some (zcMask (k * 5)) := by rw [hblk2.cell, arr_get _ _ _ (by omega), if_neg (by omega)]
      have s1 : w2.cell? ⟨w.heap.size, k * 5 + 1, none⟩ = some (zcMask (k * 5 + 1)) := by rw [hblk2.cell, arr_get _ _ _ (by omega), if_neg (by omega)]
      have s2 : w2.cell? ⟨w.heap.size, k * 5 + 2, none⟩ = some (zcMask (k * 5 + 2)) := by rw [hblk2.cell, arr_get _ _ _ (by omega), if_neg (by omega)]
      have s3 : w2.cell? ⟨w.heap.size, k * 5 + 3, none⟩ = some (zcMask (k * 5 + 3)) := by rw [hblk2.cell, arr_get _ _ _ (by omega), if_neg (by omega)]
      have s4 : w2.cell? ⟨w.heap.size, k * 5 + 4, none⟩ = some (zcMask (k * 5 + 4)) := by rw [hblk2.cell, arr_get _ _ _ (by omega), if_neg (by omega)]
      have r0 : w2.frozen? ⟨w.heap.size, k * 5, none⟩ = false := hblk2.frozen _
      have r1 : w2.frozen? ⟨w.heap.size, k * 5 + 1, none⟩ = false := hblk2.frozen _
      have r2 : w2.frozen? ⟨w.heap.size, k * 5 + 2, none⟩ = false := hblk2.frozen _
      have r3 : w2.frozen? ⟨w.heap.size, k * 5 + 3, none⟩ = false := hblk2.frozen _
      have r4 : w2.frozen? ⟨w.heap.size, k * 5 + 4, none⟩ = false := hblk2.frozen _
      go_wp2_with fail
      go_roundw
      case rel =>
        refine ⟨k + 1, by omega, by go_num, ?_, ?_⟩
        · have hbl2 := hbl.trans (hb2.mono hbl.size)
          repeat (first | with_reducible exact Below.refl _ _ | with_reducible assumption | with_reducible refine Below.setCell ?_ (by simp <;> omega) _ | with_reducible refine Below.alloc ?_ (by simp <;> omega) _ | with_reducible refine Below.drew ?_)
        · have h := hblk2.set_ (k * 5) (.int .i64 (l k).f0)
          have h := h.set_ (k * 5 + 1) (.int .i64 (l k).f1)
          have h := h.set_ (k * 5 + 2) (.int .i64 (l k).f2)
          have h := h.set_ (k * 5 + 3) (.int .i64 (l k).f3)
          have h := h.set_ (k * 5 + 4) (.int .i64 (l k).f4)
          rw [arr_set, arr_set, arr_set, arr_set, arr_set] at h
          exact to_step5 h (MaskC0 l k) (MaskC1 l k) (MaskC2 l k) (MaskC3 l k) (MaskC4 l k)
      case measure => simp [intOf]; omega
    · go_wp2_with fail
      go_ret
      have : k = n := by omega
      subst this
      exact ⟨rfl, hbl, hblk.congr (fun j hj => if_pos hj)⟩

theorem eqMask_yes (x0 : Int) (x1 : Int) (x2 : Int) (x3 : Int) (x4 : Int) (w : World) :
    Calls Try.prog 60 #[.agg #[.int .i64 x0, .int .i64 x1, .int .i64 x2, .int .i64 x3, .int .i64 x4], .agg #[.int .i64 x0, .int .i64 x1, .int .i64 x2, .int .i64 x3, .int .i64 x4]] w fun e w' => e = .returned (.bool true) ∧ Below w.heap.size w w' := by
  go_enter Try.func60, Try.ntmps60
  go_wp2
  go_ret
  exact ⟨rfl, by repeat (first | with_reducible exact Below.refl _ _ | with_reducible assumption | with_reducible refine Below.setCell ?_ (by simp <;> omega) _ | with_reducible refine Below.alloc ?_ (by simp <;> omega) _ | with_reducible refine Below.drew ?_)⟩

set_option maxHeartbeats 800000 in
theorem eqMaskS_yes (A A' : Option Addr) (n c c' : Nat) (l : Nat → MaskD) (w : World) (hn : n ≤ 9223372036854775807) (hs : Sl w A (n * 5) (MaskC l)) (hs' : Sl w A' (n * 5) (MaskC l)) :
    Calls Try.prog 38 #[.slice A n c, .slice A' n c'] w fun e w' => e = .returned (.bool true) ∧ Below w.heap.size w w' := by
  have hn' : (n : Int) ≤ 9223372036854775807 := by omega
  go_enter Try.func38, Try.ntmps38
  go_wp2_with fail
  go_loopw [5] (fun i wr => ∃ k : Nat, k ≤ n ∧ i = .int .i64 k ∧ Below w.heap.size w wr) (fun i _ => n - (intOf i).toNat)
  case atStart => exact ⟨0, Nat.zero_le _, rfl, Below.refl _ _⟩
  case round =>
    obtain ⟨k, hk, rfl, hbl⟩ := hrel
    by_cases hlt : k < n
    · obtain ⟨b, off, rfl, hb, hc⟩ := hs (by omega)
      obtain ⟨b', off', rfl, hb', hc'⟩ := hs' (by omega)
      have hbr : b < wr.heap.size := by have := hbl.size; omega
      have hbr' : b' < wr.heap.size := by have := hbl.size; omega
      have d0 : wr.cell? ⟨b, off + k * 5, none⟩ = some (.int .i64 (l k).f0) := by rw [hbl.cell (by exact hb), hc _ (by omega), MaskC0]
      have d1 : wr.cell? ⟨b, off + k * 5 + 1, none⟩ = some (.int .i64 (l k).f1) := by rw [hbl.cell (by exact hb), Nat.add_assoc, hc _ (by omega), MaskC1]
      have d2 : wr.cell? ⟨b, off + k * 5 + 2, none⟩ = some (.int .i64 (l k).f2) := by rw [hbl.cell (by exact hb), Nat.add_assoc, hc _ (by omega), MaskC2]
      have d3 : wr.cell? ⟨b, off + k * 5 + 3, none⟩ = some (.int .i64 (l k).f3) := by rw [hbl.cell (by exact hb), Nat.add_assoc, hc _ (by omega), MaskC3]
      have d4 : wr.cell? ⟨b, off + k * 5 + 4, none⟩ = some (.int .i64 (l k).f4) := by rw [hbl.cell (by exact hb), Nat.add_assoc, hc _ (by omega), MaskC4]
      have d'0 : wr.cell? ⟨b', off' + k * 5, none⟩ = some (.int .i64 (l k).f0) := by rw [hbl.cell (by exact hb'), hc' _ (by omega), MaskC0]
      have d'1 : wr.cell? ⟨b', off' + k * 5 + 1, none⟩ = some (.int .i64 (l k).f1) := by rw [hbl.cell (by exact hb'), Nat.add_assoc, hc' _ (by omega), MaskC1]
      have d'2 : wr.cell? ⟨b', off' + k * 5 + 2, none⟩ = some (.int .i64 (l k).f2) := by rw [hbl.cell (by exact hb'), Nat.add_assoc, hc' _ (by omega), MaskC2]
      have d'3 : wr.cell? ⟨b', off' + k * 5 + 3, none⟩ = some (.int .i64 (l k).f3) := by rw [hbl.cell (by exact hb'), Nat.add_assoc, hc' _ (by omega), MaskC3]
      have d'4 : wr.cell? ⟨b', off' + k * 5 + 4, none⟩ = some (.int .i64 (l k).f4) := by rw [hbl.cell (by exact hb'), Nat.add_assoc, hc' _ (by omega), MaskC4]
      clear hc hc'
      go_wp2_with fail
      refine wp_region_ext (by kernel_rfl) (by kernel_rfl) ?_
      repeat (go_big_quiet_step ((go_at_call 60; exact quiet_ext (eqMask_yes _ _ _ _ _ _))))
      refine wpQuiet_nil ?_
      intro e1
      have hb1 := e1.below
      go_wp2_with fail
      go_roundw
      case rel => exact ⟨k + 1, by omega, by go_num, hbl.trans (hb1.mono hbl.size)⟩
      case measure => simp [intOf]; omega
    · go_wp2_with fail
      go_ret
      exact ⟨rfl, hbl⟩

end Go.Proofs.Ytjomlcjchndkeaa
