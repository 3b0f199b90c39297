/- Lists of int64: copies and comparisons of the laws. Conditions: the slice reads as told. -/
import Derived.Test.YtkjnpnijplnoaaaDoorRows
import Derived.Test.YtkjnpnijplnoaaaDoorAppend
import Derived.Lib.SliceRun
import Derived.Deep.DeepCutAuto
namespace Go.Proofs.YtkjnpnijplnoaaaDoor
open Go.RowKit Go.Lib Go.Ks
def IntC (l : Nat → Int) : Nat → Value := fun j => .int .i64 (l j)
set_option maxHeartbeats 800000 in
theorem eqInt64S_yes (A A' : Option Addr) (n c c' : Nat) (l : Nat → Int) (w : World) (hn : n ≤ 1048576) (hs : Sl w A (n * 1) (IntC l)) (hs' : Sl w A' (n * 1) (IntC l)) :
    Calls Tryd.prog 23 #[.slice A n c, .slice A' n c'] w fun e w' => e = .returned (.bool true) ∧ Below w.heap.size w w' := by
  have hn' : (n : Int) ≤ 9223372036854775807 := by omega
  go_enter Tryd.func23, Tryd.ntmps23
  go_wp2_with fail
  go_loopw [5] (fun i wr => ∃ k : Nat, k ≤ n ∧ i = .int .i64 k ∧ Below w.heap.size w wr) (fun i _ => n - (intOf i).toNat)
  case atStart => exact ⟨0, Nat.zero_le _, rfl, Below.refl _ _⟩
  case round =>
    obtain ⟨k, hk, rfl, hbl⟩ := hrel
    by_cases hlt : k < n
    · obtain ⟨b, off, rfl, hb, hc⟩ := hs (by omega)
      obtain ⟨b', off', rfl, hb', hc'⟩ := hs' (by omega)
      have hbr : b < wr.heap.size := by have := hbl.size; omega
      have hbr' : b' < wr.heap.size := by have := hbl.size; omega
      have d0 : wr.cell? ⟨b, off + k, none⟩ = some (.int .i64 (l k)) := by rw [hbl.cell (by exact hb), hc _ (by omega)]; rfl
      have d'0 : wr.cell? ⟨b', off' + k, none⟩ = some (.int .i64 (l k)) := by rw [hbl.cell (by exact hb'), hc' _ (by omega)]; rfl
      clear hc hc'
      go_wp2_with fail
      refine wp_region_ext (by kernel_rfl) (by kernel_rfl) ?_
      repeat (go_big_quiet_step (fail))
      refine wpQuiet_nil ?_
      intro e1
      have hb1 := e1.below
      go_wp2_with fail
      go_roundw
      case rel => exact ⟨k + 1, by omega, by go_num, hbl.trans (hb1.mono hbl.size)⟩
      case measure => simp [intOf]; omega
    · go_wp2_with fail
      go_ret
      exact ⟨rfl, hbl⟩
theorem Tryd.infoI64 : (Tryd.prog.info? 2).map (fun i => (i.zero, i.size, i.bytes)) = some (some (.int .i64 0), 1, 8) := by kernel_rfl
theorem to_step1 {w : World} {B : Nat} {t : TypeId} {m k : Nat} {C z : Nat → Value} {v0 : Value} (h : Blk w B t (arr m (fun j => if j = k then v0 else if j < k then C j else z j))) (h0 : C k = v0) : Blk w B t (arr m (fun j => if j < k + 1 then C j else z j)) := h.congr (fun j _ => by
  by_cases e0 : j = k
  · rw [if_pos e0, if_pos (by omega), ← h0, e0]
  rw [if_neg e0]
  by_cases hx : j < k
  · rw [if_pos hx, if_pos (by omega)]
  · rw [if_neg hx, if_neg (by omega)])
set_option maxHeartbeats 800000 in
theorem toInt64S_any (A : Option Addr) (n c : Nat) (l : Nat → Int) (w : World) (hn : n ≤ 1048576) (hs : Sl w A (n * 1) (IntC l)) :
    Calls Tryd.prog 31 #[.slice A n c] w fun e w' => e = .returned (.slice (some ⟨w.heap.size, 0, none⟩) n n) ∧ Below w.heap.size w w' ∧ Blk w' w.heap.size 2 (arr (n * 1) (IntC l)) := by
  obtain ⟨i0, hi, hz0, hz1, hz2⟩ := info_parts Tryd.infoI64
  have hmk := fun W => run_make_rowN (P := Tryd.prog) 32 2 i0 _ Tryd.underlying32 hi hz0 .i64 .i64 n n (Nat.le_refl _) (by rw [hz2]; omega) (by omega) W
  rw [hz1] at hmk
  have hn' : (n : Int) ≤ 1048576 := by omega
  go_enter Tryd.func31, Tryd.ntmps31
  go_wp2_with fail
  clear hmk
  go_loopw [4] (fun i wr => ∃ k : Nat, k ≤ n ∧ i = .int .i64 k ∧ Below w.heap.size w wr ∧ Blk wr w.heap.size 2 (arr (n * 1) (fun j => if j < k then IntC l j else .int .i64 0))) (fun i _ => n - (intOf i).toNat)
  case atStart =>
    refine ⟨0, Nat.zero_le _, rfl, ?_, ?_⟩
    · repeat (first | with_reducible exact Below.refl _ _ | with_reducible assumption | with_reducible refine Below.setCell ?_ (by simp <;> omega) _ | with_reducible refine Below.alloc ?_ (by simp <;> omega) _ | with_reducible refine Below.drew ?_)
    · have : arr (n * 1) (fun j => if j < 0 then IntC l j else .int .i64 0) = madeCells (Value.int IntKind.i64 0).cells (n * 1) := by
        rw [made_arr]
        apply arr_ext
        intro j _
        rw [if_neg (by omega)]
        have hj : j % 1 = 0 := Nat.mod_one j
        simp only [Value.cells]
        show _ = #[Value.int IntKind.i64 0][j % 1]!
        rw [hj]
        rfl
      rw [this, Nat.mul_one]
      exact Blk.new _ _ _
  case round =>
    obtain ⟨k, hk, rfl, hbl, hblk⟩ := hrel
    by_cases hlt : k < n
    · obtain ⟨b, off, rfl, hb, hc⟩ := hs (by omega)
      have hbr : b < wr.heap.size := by have := hbl.size; omega
      have hgr : w.heap.size < wr.heap.size := hblk.lt
      have d0 : wr.cell? ⟨b, off + k, none⟩ = some (.int .i64 (l k)) := by rw [hbl.cell (by exact hb), hc _ (by omega)]; rfl
      have s0 : wr.cell? ⟨w.heap.size, k, none⟩ = some (.int .i64 0) := by rw [hblk.cell, arr_get _ _ _ (by omega), if_neg (by omega)]
      have r0 : wr.frozen? ⟨w.heap.size, k, none⟩ = false := hblk.frozen _
      clear hc
      go_wp2_with fail
      go_roundw
      case rel =>
        refine ⟨k + 1, by omega, by go_num, ?_, ?_⟩
        · repeat (first | with_reducible exact Below.refl _ _ | with_reducible assumption | with_reducible refine Below.setCell ?_ (by simp <;> omega) _ | with_reducible refine Below.alloc ?_ (by simp <;> omega) _ | with_reducible refine Below.drew ?_)
        · have h := hblk.set_ k (.int .i64 (l k))
          rw [arr_set] at h
          exact to_step1 h rfl
      case measure => simp [intOf]; omega
    · go_wp2_with fail
      go_ret
      have : k = n := by omega
      subst this
      exact ⟨rfl, hbl, hblk.congr (fun j hj => if_pos (by omega))⟩
end Go.Proofs.YtkjnpnijplnoaaaDoor
