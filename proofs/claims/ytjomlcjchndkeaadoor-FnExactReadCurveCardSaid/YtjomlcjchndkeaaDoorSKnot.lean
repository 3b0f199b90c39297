/- The law file's own helpers over Knot: copying, sizing, comparing, marking. No condition beyond those stated. -/
import Derived.Test.YtjomlcjchndkeaaDoorRows
import Derived.Test.YtjomlcjchndkeaaDoorAppend
import Derived.Lib.SliceRun
namespace Go.Proofs.YtjomlcjchndkeaaDoor
open Go.RowKit Go.Lib Go.Ks

theorem toKnot_any (x0 : Int) (x1 : Int) (w : World) :
    Calls Tryd.prog 16 #[.agg #[.int .i64 x0, .int .i64 x1]] w fun e w' => e = .returned (.agg #[.int .i64 x0, .int .i64 x1]) ∧ Below w.heap.size w w' := by
  go_enter Tryd.func16, Tryd.ntmps16
  go_wp2
  exact bodyPost_ret (v := .agg #[.int .i64 x0, .int .i64 x1]) (by simp [results, Tryd.results16, go_sem]) rfl ⟨rfl, by
    repeat (first | with_reducible exact Below.refl _ _ | with_reducible assumption | with_reducible refine Below.setCell ?_ (by simp <;> omega) _ | with_reducible refine Below.alloc ?_ (by simp <;> omega) _ | with_reducible refine Below.drew ?_)⟩

theorem szKnotS_any (A : Option Addr) (n c : Nat) (left : Int) (hn : n ≤ 9223372036854775807) (hl : 0 ≤ left) (hl2 : left ≤ 1048576) (w : World) :
    Calls Tryd.prog 5 #[.slice A n c, .int .i64 left] w fun e w' => SzR left ((n : Int) ≤ left) e ∧ Below w.heap.size w w' := by
  have q : (n : Int) ≤ 9223372036854775807 := by omega
  go_enter Tryd.func5, Tryd.ntmps5
  go_wp2
  all_goals go_ret
  all_goals refine ⟨?_, by repeat (first | with_reducible exact Below.refl _ _ | with_reducible assumption | with_reducible refine Below.setCell ?_ (by simp <;> omega) _ | with_reducible refine Below.alloc ?_ (by simp <;> omega) _ | with_reducible refine Below.drew ?_)⟩
  all_goals first | exact SzR.no _ _ | exact SzR.yes (by omega) (by omega) (by omega)

theorem Tryd.info35 : (Tryd.prog.info? 35).map (fun i => (i.zero, i.size, i.bytes)) = some (some (.agg #[.int .i64 0, .int .i64 0]), 2, 16) := by kernel_rfl
def zcKnot : Nat → Value := rc 2 (fun i _ => match i with | 0 => .int .i64 0 | _ => .int .i64 0)
set_option maxHeartbeats 800000 in
theorem toKnotS_any (A : Option Addr) (n c : Nat) (l : Nat → KnotD) (w : World) (hn : n ≤ 1048576) (hs : Sl w A (n * 2) (KnotC l)) :
    Calls Tryd.prog 7 #[.slice A n c] w fun e w' => e = .returned (.slice (some ⟨w.heap.size, 0, none⟩) n n) ∧ Below w.heap.size w w' ∧ Blk w' w.heap.size 35 (arr (n * 2) (KnotC l)) := by
  obtain ⟨i0, hi, hz0, hz1, hz2⟩ := info_parts Tryd.info35
  have hmk := fun W => run_make_rowN (P := Tryd.prog) 25 35 i0 _ Tryd.underlying25 hi hz0 .i64 .i64 n n (Nat.le_refl _) (by rw [hz2]; omega) (by omega) W
  rw [hz1] at hmk
  have hn' : (n : Int) ≤ 1048576 := by omega
  go_enter Tryd.func7, Tryd.ntmps7
  go_wp2_with fail
  clear hmk
  go_loopw [4] (fun i wr => ∃ k : Nat, k ≤ n ∧ i = .int .i64 k ∧ Below w.heap.size w wr ∧ Blk wr w.heap.size 35 (arr (n * 2) (fun j => if j < k * 2 then KnotC l j else zcKnot j))) (fun i _ => n - (intOf i).toNat)
  case atStart =>
    refine ⟨0, Nat.zero_le _, rfl, ?_, ?_⟩
    · repeat (first | with_reducible exact Below.refl _ _ | with_reducible assumption | with_reducible refine Below.setCell ?_ (by simp <;> omega) _ | with_reducible refine Below.alloc ?_ (by simp <;> omega) _ | with_reducible refine Below.drew ?_)
    · have : arr (n * 2) (fun j => if j < 0 * 2 then KnotC l j else zcKnot j) = madeCells (Value.agg #[.int .i64 0, .int .i64 0]).cells (n * 2) := by
        rw [made_arr]
        apply arr_ext
        intro j _
        have hj : j % 2 < 2 := Nat.mod_lt _ (by decide)
        rw [if_neg (by omega)]
        unfold zcKnot rc
        simp only [Value.cells]
        generalize j % 2 = m at hj
        match m, hj with
        | 0, _ => rfl
        | 1, _ => rfl
      rw [this]
      exact Blk.new _ _ _
  case round =>
    obtain ⟨k, hk, rfl, hbl, hblk⟩ := hrel
    by_cases hlt : k < n
    · obtain ⟨b, off, rfl, hb, hc⟩ := hs (by omega)
      have hbr : b < wr.heap.size := by have := hbl.size; omega
      have hgr : w.heap.size < wr.heap.size := hblk.lt
      have d0 : wr.cell? ⟨b, off + k * 2, none⟩ = some (.int .i64 (l k).f0) := by rw [hbl.cell (by exact hb), hc _ (by omega), KnotC0]
      have d1 : wr.cell? ⟨b, off + k * 2 + 1, none⟩ = some (.int .i64 (l k).f1) := by rw [hbl.cell (by exact hb), Nat.add_assoc, hc _ (by omega), KnotC1]
      clear hc
      go_wp2_with fail
      refine (toKnot_any _ _ _).mono ?_
      rintro e w2 ⟨rfl, hb2⟩
      have hblk2 := hblk.below hb2 hgr
      have hg2 : w.heap.size < w2.heap.size := hblk2.lt
      have s0 : w2.cell? ⟨w.heap.size, k * 2, none⟩ = some (zcKnot (k * 2)) := by rw [hblk2.cell, arr_get _ _ _ (by omega), if_neg (by omega)]
      have s1 : w2.cell? ⟨w.heap.size, k * 2 + 1, none⟩ = some (zcKnot (k * 2 + 1)) := by rw [hblk2.cell, arr_get _ _ _ (by omega), if_neg (by omega)]
      have r0 : w2.frozen? ⟨w.heap.size, k * 2, none⟩ = false := hblk2.frozen _
      have r1 : w2.frozen? ⟨w.heap.size, k * 2 + 1, none⟩ = false := hblk2.frozen _
      go_wp2_with fail
      go_roundw
      case rel =>
        refine ⟨k + 1, by omega, by go_num, ?_, ?_⟩
        · have hbl2 := hbl.trans (hb2.mono hbl.size)
          repeat (first | with_reducible exact Below.refl _ _ | with_reducible assumption | with_reducible refine Below.setCell ?_ (by simp <;> omega) _ | with_reducible refine Below.alloc ?_ (by simp <;> omega) _ | with_reducible refine Below.drew ?_)
        · have h := hblk2.set_ (k * 2) (.int .i64 (l k).f0)
          have h := h.set_ (k * 2 + 1) (.int .i64 (l k).f1)
          rw [arr_set, arr_set] at h
          exact to_step2 h (KnotC0 l k) (KnotC1 l k)
      case measure => simp [intOf]; omega
    · go_wp2_with fail
      go_ret
      have : k = n := by omega
      subst this
      exact ⟨rfl, hbl, hblk.congr (fun j hj => if_pos hj)⟩

theorem eqKnot_yes (x0 : Int) (x1 : Int) (w : World) :
    Calls Tryd.prog 20 #[.agg #[.int .i64 x0, .int .i64 x1], .agg #[.int .i64 x0, .int .i64 x1]] w fun e w' => e = .returned (.bool true) ∧ Below w.heap.size w w' := by
  go_enter Tryd.func20, Tryd.ntmps20
  go_wp2
  go_ret
  exact ⟨rfl, by repeat (first | with_reducible exact Below.refl _ _ | with_reducible assumption | with_reducible refine Below.setCell ?_ (by simp <;> omega) _ | with_reducible refine Below.alloc ?_ (by simp <;> omega) _ | with_reducible refine Below.drew ?_)⟩

set_option maxHeartbeats 800000 in
theorem eqKnotS_yes (A A' : Option Addr) (n c c' : Nat) (l : Nat → KnotD) (w : World) (hn : n ≤ 9223372036854775807) (hs : Sl w A (n * 2) (KnotC l)) (hs' : Sl w A' (n * 2) (KnotC l)) :
    Calls Tryd.prog 9 #[.slice A n c, .slice A' n c'] w fun e w' => e = .returned (.bool true) ∧ Below w.heap.size w w' := by
  have hn' : (n : Int) ≤ 9223372036854775807 := by omega
  go_enter Tryd.func9, Tryd.ntmps9
  go_wp2_with fail
  go_loopw [5] (fun i wr => ∃ k : Nat, k ≤ n ∧ i = .int .i64 k ∧ Below w.heap.size w wr) (fun i _ => n - (intOf i).toNat)
  case atStart => exact ⟨0, Nat.zero_le _, rfl, Below.refl _ _⟩
  case round =>
    obtain ⟨k, hk, rfl, hbl⟩ := hrel
    by_cases hlt : k < n
    · obtain ⟨b, off, rfl, hb, hc⟩ := hs (by omega)
      obtain ⟨b', off', rfl, hb', hc'⟩ := hs' (by omega)
      have hbr : b < wr.heap.size := by have := hbl.size; omega
      have hbr' : b' < wr.heap.size := by have := hbl.size; omega
      have d0 : wr.cell? ⟨b, off + k * 2, none⟩ = some (.int .i64 (l k).f0) := by rw [hbl.cell (by exact hb), hc _ (by omega), KnotC0]
      have d1 : wr.cell? ⟨b, off + k * 2 + 1, none⟩ = some (.int .i64 (l k).f1) := by rw [hbl.cell (by exact hb), Nat.add_assoc, hc _ (by omega), KnotC1]
      have d'0 : wr.cell? ⟨b', off' + k * 2, none⟩ = some (.int .i64 (l k).f0) := by rw [hbl.cell (by exact hb'), hc' _ (by omega), KnotC0]
      have d'1 : wr.cell? ⟨b', off' + k * 2 + 1, none⟩ = some (.int .i64 (l k).f1) := by rw [hbl.cell (by exact hb'), Nat.add_assoc, hc' _ (by omega), KnotC1]
      clear hc hc'
      go_wp2_with fail
      refine wp_region_ext (by kernel_rfl) (by kernel_rfl) ?_
      repeat (go_big_quiet_step ((go_at_call 20; exact quiet_ext (eqKnot_yes _ _ _))))
      refine wpQuiet_nil ?_
      intro e1
      have hb1 := e1.below
      go_wp2_with fail
      go_roundw
      case rel => exact ⟨k + 1, by omega, by go_num, hbl.trans (hb1.mono hbl.size)⟩
      case measure => simp [intOf]; omega
    · go_wp2_with fail
      go_ret
      exact ⟨rfl, hbl⟩

set_option maxHeartbeats 800000 in
theorem markKnotS_blk (B n c m : Nat) (k0 : Int) (f : Nat → Value) (w : World) (hn : n ≤ 1048576) (hk0 : 0 ≤ k0) (hk1 : k0 ≤ 1000000000) (hm : n * 2 ≤ m) (hblk0 : Blk w B 35 (arr m f)) :
    Calls Tryd.prog 12 #[.slice (some ⟨B, 0, none⟩) n c, .int .i64 k0] w fun e w' => e = .returned (.int .i64 (k0 + (n : Int) * 2)) ∧ w.grownBy w' (some B) ∧ Blk w' B 35 (arr m (mk k0 (n * 2) f)) := by
  have hn' : (n : Int) ≤ 1048576 := by omega
  go_enter Tryd.func12, Tryd.ntmps12
  go_wp2_with fail
  go_loopw [1, 5] (fun t i wr => ∃ k : Nat, k ≤ n ∧ i = .int .i64 k ∧ t = .int .i64 (k0 + (k : Int) * 2) ∧ w.grownBy wr (some B) ∧ Blk wr B 35 (arr m (mk k0 (k * 2) f))) (fun _ i _ => n - (intOf i).toNat)
  case atStart => exact ⟨0, Nat.zero_le _, rfl, ret_num (by omega), World.grownBy.refl _ _, hblk0.congr (fun j _ => (mk_out (by omega)).symm)⟩
  case round =>
    obtain ⟨k, hk, rfl, rfl, hbl, hblk⟩ := hrel
    by_cases hlt : k < n
    · have hgr : B < wr.heap.size := hblk.lt
      obtain ⟨v0, s0⟩ : ∃ v, wr.cell? ⟨B, k * 2, none⟩ = some v := ⟨_, by rw [hblk.cell, arr_get _ _ _ (by omega)]⟩
      obtain ⟨v1, s1⟩ : ∃ v, wr.cell? ⟨B, k * 2 + 1, none⟩ = some v := ⟨_, by rw [hblk.cell, arr_get _ _ _ (by omega)]⟩
      have r0 : wr.frozen? ⟨B, k * 2, none⟩ = false := hblk.frozen _
      have r1 : wr.frozen? ⟨B, k * 2 + 1, none⟩ = false := hblk.frozen _
      go_wp2_with fail
      go_roundw
      case rel =>
        refine ⟨k + 1, by omega, by go_num, ret_num (by omega), ?_, ?_⟩
        · refine only_setCell ?_ (.inl rfl) _; refine only_setCell ?_ (.inl rfl) _; exact hbl
        · have h := hblk
          have h := h.set_ (k * 2) (.int .i64 (k0 + (k : Int) * 2))
          have h := h.set_ (k * 2 + 1) (.int .i64 (k0 + (k : Int) * 2 + 1))
          rw [arr_set, arr_set] at h
          exact mk_step2 h (by omega) (by omega)
      case measure => simp [intOf]; omega
    · go_wp2_with fail
      go_ret
      have : k = n := by omega
      subst this
      exact ⟨rfl, hbl, hblk⟩
theorem markKnotS_nil (k0 : Int) (w : World) :
    Calls Tryd.prog 12 #[.slice none 0 0, .int .i64 k0] w fun e w' => e = .returned (.int .i64 k0) ∧ w = w' := by
  go_enter Tryd.func12, Tryd.ntmps12
  go_wp2_with fail
  go_loop [1, 5] (fun t i => i = .int .i64 0 ∧ t = .int .i64 k0) (fun _ _ => 0)
  case atStart => exact ⟨rfl, rfl⟩
  case round =>
    obtain ⟨rfl, rfl⟩ := hrel
    go_wp2_with fail
    go_ret
    exact ⟨rfl, rfl⟩
theorem markKnotS_any (base : Nat) (A : Option Addr) (n c : Nat) (k0 : Int) (f : Nat → Value) (w : World) (hn : n ≤ 1048576) (hk0 : 0 ≤ k0) (hk1 : k0 ≤ 1000000000) (ho : Own w base 35 2 A n f) (hc : A = none → c = 0) :
    Calls Tryd.prog 12 #[.slice A n c, .int .i64 k0] w fun e w' => e = .returned (.int .i64 (k0 + (n : Int) * 2)) ∧ w.grownBy w' (blockOf A) ∧ Own w' base 35 2 A n (mk k0 (n * 2) f) := by
  rcases ho with ⟨rfl, rfl⟩ | ⟨B, m, h, rfl, hb, hk, hm, hf⟩
  · obtain rfl := hc rfl
    refine (markKnotS_nil k0 w).mono ?_
    rintro e w' ⟨rfl, rfl⟩
    exact ⟨ret_int (by omega), World.grownBy.refl _ _, .inl ⟨rfl, rfl⟩⟩
  · refine (markKnotS_blk B n c m k0 h w hn hk0 hk1 hm hk).mono ?_
    rintro e w' ⟨rfl, hg, hk'⟩
    exact ⟨rfl, hg, .inr ⟨B, m, _, rfl, hb, hk', hm, fun j hj => by unfold mk; rw [if_pos hj, if_pos hj]⟩⟩

set_option maxHeartbeats 800000 in
theorem heldKnotS_any (A : Option Addr) (n c : Nat) (k0 : Int) (f : Nat → Value) (w : World) (hn : n ≤ 1048576) (hk0 : 0 ≤ k0) (hk1 : k0 ≤ 1000000000) (hs : Sl w A (n * 2) (mk k0 (n * 2) f)) :
    Calls Tryd.prog 13 #[.slice A n c, .int .i64 k0] w fun e w' => e = .returned (.int .i64 (k0 + (n : Int) * 2)) ∧ Below w.heap.size w w' := by
  have hn' : (n : Int) ≤ 1048576 := by omega
  go_enter Tryd.func13, Tryd.ntmps13
  go_wp2_with fail
  go_loopw [1, 5] (fun t i wr => ∃ k : Nat, k ≤ n ∧ i = .int .i64 k ∧ t = .int .i64 (k0 + (k : Int) * 2) ∧ Below w.heap.size w wr) (fun _ i _ => n - (intOf i).toNat)
  case atStart => exact ⟨0, Nat.zero_le _, rfl, ret_num (by omega), Below.refl _ _⟩
  case round =>
    obtain ⟨k, hk, rfl, rfl, hbl⟩ := hrel
    by_cases hlt : k < n
    · obtain ⟨b, off, rfl, hb, hc⟩ := hs (by omega)
      have d0 : wr.cell? ⟨b, off + k * 2, none⟩ = some (.int .i64 (k0 + (k : Int) * 2)) := by rw [hbl.cell (by exact hb), hc _ (by omega)]; exact mk_at (by omega) (by omega)
      have d1 : wr.cell? ⟨b, off + k * 2 + 1, none⟩ = some (.int .i64 (k0 + (k : Int) * 2 + 1)) := by rw [hbl.cell (by exact hb), Nat.add_assoc, hc _ (by omega)]; exact mk_at (by omega) (by omega)
      clear hc
      go_wp2_with fail
      go_roundw
      case rel => exact ⟨k + 1, by omega, by go_num, ret_num (by omega), hbl⟩
      case measure => simp [intOf]; omega
    · go_wp2_with fail
      go_ret
      have : k = n := by omega
      subst this
      exact ⟨rfl, hbl⟩

end Go.Proofs.YtjomlcjchndkeaaDoor
