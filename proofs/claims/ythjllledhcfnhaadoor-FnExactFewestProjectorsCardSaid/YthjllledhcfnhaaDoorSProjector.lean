/- The law file's own helpers over Projector: copying, sizing, comparing, marking. No condition beyond those stated. -/
import Derived.Test.YthjllledhcfnhaaDoorRows
import Derived.Test.YthjllledhcfnhaaDoorAppend
import Derived.Lib.SliceRun
import Derived.Test.YthjllledhcfnhaaDoorMarkText
namespace Go.Proofs.YthjllledhcfnhaaDoor
open Go.RowKit Go.Lib Go.Ks

theorem toProjector_any (x0 : ByteArray) (x1 : Int) (x2 : Int) (x3 : Int) (x4 : Int) (w : World) :
    Calls Tryd.prog 63 #[.agg #[.string x0, .int .i64 x1, .int .i64 x2, .int .i64 x3, .int .i64 x4]] w fun e w' => e = .returned (.agg #[.string x0, .int .i64 x1, .int .i64 x2, .int .i64 x3, .int .i64 x4]) ∧ Below w.heap.size w w' := by
  go_enter Tryd.func63, Tryd.ntmps63
  go_wp2
  exact bodyPost_ret (v := .agg #[.string x0, .int .i64 x1, .int .i64 x2, .int .i64 x3, .int .i64 x4]) (by simp [results, Tryd.results63, go_sem]) rfl ⟨rfl, by
    repeat (first | with_reducible exact Below.refl _ _ | with_reducible assumption | with_reducible refine Below.setCell ?_ (by simp <;> omega) _ | with_reducible refine Below.alloc ?_ (by simp <;> omega) _ | with_reducible refine Below.drew ?_)⟩

theorem szProjector_any (x0 : ByteArray) (x1 : Int) (x2 : Int) (x3 : Int) (x4 : Int) (left : Int) (h0 : x0.size ≤ 9223372036854775807) (hl : 0 ≤ left) (hl2 : left ≤ 1048576) (w : World) :
    Calls Tryd.prog 54 #[.agg #[.string x0, .int .i64 x1, .int .i64 x2, .int .i64 x3, .int .i64 x4], .int .i64 left] w fun e w' => SzR left ((x0.size : Int) ≤ left) e ∧ Below w.heap.size w w' := by
  have q0 : (x0.size : Int) ≤ 9223372036854775807 := by omega
  go_enter Tryd.func54, Tryd.ntmps54
  go_wp2
  all_goals go_ret
  all_goals refine ⟨?_, by repeat (first | with_reducible exact Below.refl _ _ | with_reducible assumption | with_reducible refine Below.setCell ?_ (by simp <;> omega) _ | with_reducible refine Below.alloc ?_ (by simp <;> omega) _ | with_reducible refine Below.drew ?_)⟩
  all_goals first | exact SzR.no _ _ | exact SzR.yes (by omega) (by omega) (by refine ⟨?_, ?_⟩ <;> omega) | exact SzR.yes (by omega) (by omega) (by omega)

set_option maxHeartbeats 800000 in
theorem szProjectorS_any (A : Option Addr) (n c : Nat) (l : Nat → ProjectorD) (left : Int) (hn : n ≤ 9223372036854775807) (hl : 0 ≤ left) (hl2 : left ≤ 1048576) (w : World) (hs : Sl w A (n * 5) (ProjectorC l))
    (hz : ∀ j, j < n → (l j).f0.size ≤ 9223372036854775807) :
    Calls Tryd.prog 8 #[.slice A n c, .int .i64 left] w fun e w' => SzR left ((n : Int) ≤ left ∧ ∀ j, j < n → ((l j).f0.size : Int) ≤ left) e ∧ Below w.heap.size w w' := by
  have q : (n : Int) ≤ 9223372036854775807 := by omega
  have HZ := Lib.hid hz
  clear hz
  by_cases h0 : left - n < 0
  · go_enter Tryd.func8, Tryd.ntmps8
    go_wp2_with fail
    go_ret
    exact ⟨SzR.no _ _, Below.refl _ _⟩
  go_enter Tryd.func8, Tryd.ntmps8
  go_wp2_with fail
  go_loopw [1, 5] (fun t i wr => ∃ (k : Nat) (r : Int), k ≤ n ∧ i = .int .i64 k ∧ t = .int .i64 r ∧ 0 ≤ r ∧ r ≤ left ∧ Below w.heap.size w wr ∧ ∀ j, j < k → ((l j).f0.size : Int) ≤ left) (fun _ i _ => n - (intOf i).toNat)
  case atStart => exact ⟨0, left - n, Nat.zero_le _, rfl, rfl, by omega, by omega, Below.refl _ _, fun j hj => absurd hj (by omega)⟩
  case round =>
    obtain ⟨k, r, hk, rfl, rfl, hr0, hr1, hbl, hall⟩ := hrel
    have HALL := Lib.hid hall
    clear hall
    by_cases hlt : k < n
    · obtain ⟨b, off, rfl, hb, hc⟩ := hs (by omega)
      have d0 : wr.cell? ⟨b, off + k * 5, none⟩ = some (.string (l k).f0) := by rw [hbl.cell (by exact hb), hc _ (by omega), ProjectorC0]
      have d1 : wr.cell? ⟨b, off + k * 5 + 1, none⟩ = some (.int .i64 (l k).f1) := by rw [hbl.cell (by exact hb), Nat.add_assoc, hc _ (by omega), ProjectorC1]
      have d2 : wr.cell? ⟨b, off + k * 5 + 2, none⟩ = some (.int .i64 (l k).f2) := by rw [hbl.cell (by exact hb), Nat.add_assoc, hc _ (by omega), ProjectorC2]
      have d3 : wr.cell? ⟨b, off + k * 5 + 3, none⟩ = some (.int .i64 (l k).f3) := by rw [hbl.cell (by exact hb), Nat.add_assoc, hc _ (by omega), ProjectorC3]
      have d4 : wr.cell? ⟨b, off + k * 5 + 4, none⟩ = some (.int .i64 (l k).f4) := by rw [hbl.cell (by exact hb), Nat.add_assoc, hc _ (by omega), ProjectorC4]
      clear hc
      have hzk := HZ.out k hlt
      go_wp2_with fail
      refine (szProjector_any _ _ _ _ _ _ hzk hr0 (by omega) _).mono ?_
      rintro e w2 ⟨⟨r2, rfl, hr2⟩, hb2⟩
      have hbl2 := hbl.trans (hb2.mono hbl.size)
      rcases hr2 with rfl | ⟨g0, g1, g2⟩
      · go_wp2_with fail
        go_ret
        exact ⟨SzR.no _ _, hbl2⟩
      · go_wp2_with fail
        go_roundw
        case rel =>
          refine ⟨k + 1, r2, by omega, by go_num, rfl, g0, by omega, hbl2, fun j hj => ?_⟩
          rcases Nat.lt_or_ge j k with h | h
          · exact HALL.out j h
          · obtain rfl : j = k := by omega
            omega
        case measure => simp [intOf]; omega
    · go_wp2_with fail
      go_ret
      exact ⟨SzR.yes hr0 hr1 ⟨by omega, fun j hj => HALL.out j (by omega)⟩, hbl⟩

theorem Tryd.info43 : (Tryd.prog.info? 43).map (fun i => (i.zero, i.size, i.bytes)) = some (some (.agg #[.string ByteArray.empty, .int .i64 0, .int .i64 0, .int .i64 0, .int .i64 0]), 5, 48) := by kernel_rfl
def zcProjector : Nat → Value := rc 5 (fun i _ => match i with | 0 => .string ByteArray.empty | 1 => .int .i64 0 | 2 => .int .i64 0 | 3 => .int .i64 0 | _ => .int .i64 0)
set_option maxHeartbeats 800000 in
theorem toProjectorS_any (A : Option Addr) (n c : Nat) (l : Nat → ProjectorD) (w : World) (hn : n ≤ 1048576) (hs : Sl w A (n * 5) (ProjectorC l)) :
    Calls Tryd.prog 10 #[.slice A n c] w fun e w' => e = .returned (.slice (some ⟨w.heap.size, 0, none⟩) n n) ∧ Below w.heap.size w w' ∧ Blk w' w.heap.size 43 (arr (n * 5) (ProjectorC l)) := by
  obtain ⟨i0, hi, hz0, hz1, hz2⟩ := info_parts Tryd.info43
  have hmk := fun W => run_make_rowN (P := Tryd.prog) 27 43 i0 _ Tryd.underlying27 hi hz0 .i64 .i64 n n (Nat.le_refl _) (by rw [hz2]; omega) (by omega) W
  rw [hz1] at hmk
  have hn' : (n : Int) ≤ 1048576 := by omega
  go_enter Tryd.func10, Tryd.ntmps10
  go_wp2_with fail
  clear hmk
  go_loopw [4] (fun i wr => ∃ k : Nat, k ≤ n ∧ i = .int .i64 k ∧ Below w.heap.size w wr ∧ Blk wr w.heap.size 43 (arr (n * 5) (fun j => if j < k * 5 then ProjectorC l j else zcProjector j))) (fun i _ => n - (intOf i).toNat)
  case atStart =>
    refine ⟨0, Nat.zero_le _, rfl, ?_, ?_⟩
    · repeat (first | with_reducible exact Below.refl _ _ | with_reducible assumption | with_reducible refine Below.setCell ?_ (by simp <;> omega) _ | with_reducible refine Below.alloc ?_ (by simp <;> omega) _ | with_reducible refine Below.drew ?_)
    · have : arr (n * 5) (fun j => if j < 0 * 5 then ProjectorC l j else zcProjector j) = madeCells (Value.agg #[.string ByteArray.empty, .int .i64 0, .int .i64 0, .int .i64 0, .int .i64 0]).cells (n * 5) := by
        rw [made_arr]
        apply arr_ext
        intro j _
        have hj : j % 5 < 5 := Nat.mod_lt _ (by decide)
        rw [if_neg (by omega)]
        unfold zcProjector rc
        simp only [Value.cells]
        generalize j % 5 = m at hj
        match m, hj with
        | 0, _ => rfl
        | 1, _ => rfl
        | 2, _ => rfl
        | 3, _ => rfl
        | 4, _ => rfl
      rw [this]
      exact Blk.new _ _ _
  case round =>
    obtain ⟨k, hk, rfl, hbl, hblk⟩ := hrel
    by_cases hlt : k < n
    · obtain ⟨b, off, rfl, hb, hc⟩ := hs (by omega)
      have hbr : b < wr.heap.size := by have := hbl.size; omega
      have hgr : w.heap.size < wr.heap.size := hblk.lt
      have d0 : wr.cell? ⟨b, off + k * 5, none⟩ = some (.string (l k).f0) := by rw [hbl.cell (by exact hb), hc _ (by omega), ProjectorC0]
      have d1 : wr.cell? ⟨b, off + k * 5 + 1, none⟩ = some (.int .i64 (l k).f1) := by rw [hbl.cell (by exact hb), Nat.add_assoc, hc _ (by omega), ProjectorC1]
      have d2 : wr.cell? ⟨b, off + k * 5 + 2, none⟩ = some (.int .i64 (l k).f2) := by rw [hbl.cell (by exact hb), Nat.add_assoc, hc _ (by omega), ProjectorC2]
      have d3 : wr.cell? ⟨b, off + k * 5 + 3, none⟩ = some (.int .i64 (l k).f3) := by rw [hbl.cell (by exact hb), Nat.add_assoc, hc _ (by omega), ProjectorC3]
      have d4 : wr.cell? ⟨b, off + k * 5 + 4, none⟩ = some (.int .i64 (l k).f4) := by rw [hbl.cell (by exact hb), Nat.add_assoc, hc _ (by omega), ProjectorC4]
      clear hc
      go_wp2_with fail
      refine (toProjector_any _ _ _ _ _ _).mono ?_
      rintro e w2 ⟨rfl, hb2⟩
      have hblk2 := hblk.below hb2 hgr
      have hg2 : w.heap.size < w2.heap.size := hblk2.lt
      have s0 : w2.cell? ⟨w.heap.size, k * 5, none⟩ = some (zcProjector (k * 5)) := by rw [hblk2.cell, arr_get _ _ _ (by omega), if_neg (by omega)]
      have s1 : w2.cell? ⟨w.heap.size, k * 5 + 1, none⟩ = some (zcProjector (k * 5 + 1)) := by rw [hblk2.cell, arr_get _ _ _ (by omega), if_neg (by omega)]
      have s2 : w2.cell? ⟨w.heap.size, k * 5 + 2, none⟩ = some (zcProjector (k * 5 + 2)) := by rw [hblk2.cell, arr_get _ _ _ (by omega), if_neg (by omega)]
      have s3 : w2.cell? ⟨w.heap.size, k * 5 + 3, none⟩ = some (zcProjector (k * 5 + 3)) := by rw [hblk2.cell, arr_get _ _ _ (by omega), if_neg (by omega)]
      have s4 : w2.cell? ⟨w.heap.size, k * 5 + 4, none⟩ = some (zcProjector (k * 5 + 4)) := by rw [hblk2.cell, arr_get _ _ _ (by omega), if_neg (by omega)]
      have r0 : w2.frozen? ⟨w.heap.size, k * 5, none⟩ = false := hblk2.frozen _
      have r1 : w2.frozen? ⟨w.heap.size, k * 5 + 1, none⟩ = false := hblk2.frozen _
      have r2 : w2.frozen? ⟨w.heap.size, k * 5 + 2, none⟩ = false := hblk2.frozen _
      have r3 : w2.frozen? ⟨w.heap.size, k * 5 + 3, none⟩ = false := hblk2.frozen _
      have r4 : w2.frozen? ⟨w.heap.size, k * 5 + 4, none⟩ = false := hblk2.frozen _
      go_wp2_with fail
      go_roundw
      case rel =>
        refine ⟨k + 1, by omega, by go_num, ?_, ?_⟩
        · have hbl2 := hbl.trans (hb2.mono hbl.size)
          repeat (first | with_reducible exact Below.refl _ _ | with_reducible assumption | with_reducible refine Below.setCell ?_ (by simp <;> omega) _ | with_reducible refine Below.alloc ?_ (by simp <;> omega) _ | with_reducible refine Below.drew ?_)
        · have h := hblk2.set_ (k * 5) (.string (l k).f0)
          have h := h.set_ (k * 5 + 1) (.int .i64 (l k).f1)
          have h := h.set_ (k * 5 + 2) (.int .i64 (l k).f2)
          have h := h.set_ (k * 5 + 3) (.int .i64 (l k).f3)
          have h := h.set_ (k * 5 + 4) (.int .i64 (l k).f4)
          rw [arr_set, arr_set, arr_set, arr_set, arr_set] at h
          exact to_step5 h (ProjectorC0 l k) (ProjectorC1 l k) (ProjectorC2 l k) (ProjectorC3 l k) (ProjectorC4 l k)
      case measure => simp [intOf]; omega
    · go_wp2_with fail
      go_ret
      have : k = n := by omega
      subst this
      exact ⟨rfl, hbl, hblk.congr (fun j hj => if_pos hj)⟩

theorem Tryd.infoC43 : (Tryd.prog.info? 43).map (fun i => (i.zero, i.size, i.bytes)) = some (some (.agg #[.string ByteArray.empty, .int .i64 0, .int .i64 0, .int .i64 0, .int .i64 0]), 5, 48) := by kernel_rfl
theorem oneProjector (l : Nat → ProjectorD) (j : Nat) : (ProjectorC l j).oneCell' = true := by
  unfold ProjectorC rc
  have hj : j % 5 < 5 := Nat.mod_lt _ (by decide)
  generalize j % 5 = m at hj
  match m, hj with
  | 0, _ => rfl
  | 1, _ => rfl
  | 2, _ => rfl
  | 3, _ => rfl
  | 4, _ => rfl

set_option maxHeartbeats 800000 in
theorem cloneProjector_any (A : Option Addr) (n c : Nat) (l : Nat → ProjectorD) (w : World) (hn : n ≤ 1048576) (hpos : 0 < n) (hs : Sl w A (n * 5) (ProjectorC l)) :
    Calls Tryd.prog 83 #[.slice A n c] w fun e w' => (∃ A' c', e = .returned (.slice A' n c') ∧ Own w' w.heap.size 43 5 A' n (ProjectorC l) ∧ (A' = none → c' = 0)) ∧ Below w.heap.size w w' := by
  obtain ⟨b, off, rfl, hb, hc⟩ := hs (by omega)
  obtain ⟨i0, hi, hz0, hz1, hz2⟩ := info_parts Tryd.infoC43
  have heq := fun W => Lib.run_eql_slice_nil (P := Tryd.prog) W 27 43 (some ⟨b, off, none⟩) n c 0 0 Tryd.underlying27
  have HC := Lib.hid hc
  clear hc
  go_enter Tryd.func83, Tryd.ntmps83
  go_wp2_with (at_builtin; refine wpList_append_all rfl _ _ 27 rfl w.heap.size 43 i0 _ 5 48 Tryd.underlying27 hi hz0 hz1 hz2 rfl (by decide) _ (ProjectorC l) rfl (Row.empty _ _ _ _ (Nat.le_refl _)) b off n c rfl ?c1 (fun j _ => oneProjector l j) ?c3 ?c4 ?c5 ?_)
  case c1 => intro j hj; rw [World.cell?_alloc_past (n := b) (i := off + j) _ (by exact hb)]; exact HC.out j hj
  case c3 => omega
  case c4 => omega
  case c5 => simp
  intro v' w5 hrow5 hg5
  have hbl5 : Below w.heap.size w w5 := ((Below.refl w.heap.size w).alloc (Nat.le_refl _) _).grown hg5 (by simp) (fun k hk => by simp [Value.ownBlock] at hk; omega)
  obtain ⟨A', c', rfl, _, hown, hz⟩ := hrow5.own
  clear hg5
  go_wp2_with fail
  go_ret
  exact ⟨⟨A', c', rfl, hown, hz⟩, hbl5⟩

theorem eqProjector_yes (x0 : ByteArray) (x1 : Int) (x2 : Int) (x3 : Int) (x4 : Int) (w : World) :
    Calls Tryd.prog 70 #[.agg #[.string x0, .int .i64 x1, .int .i64 x2, .int .i64 x3, .int .i64 x4], .agg #[.string x0, .int .i64 x1, .int .i64 x2, .int .i64 x3, .int .i64 x4]] w fun e w' => e = .returned (.bool true) ∧ Below w.heap.size w w' := by
  go_enter Tryd.func70, Tryd.ntmps70
  go_wp2
  go_ret
  exact ⟨rfl, by repeat (first | with_reducible exact Below.refl _ _ | with_reducible assumption | with_reducible refine Below.setCell ?_ (by simp <;> omega) _ | with_reducible refine Below.alloc ?_ (by simp <;> omega) _ | with_reducible refine Below.drew ?_)⟩

set_option maxHeartbeats 800000 in
theorem eqProjectorS_yes (A A' : Option Addr) (n c c' : Nat) (l : Nat → ProjectorD) (w : World) (hn : n ≤ 9223372036854775807) (hs : Sl w A (n * 5) (ProjectorC l)) (hs' : Sl w A' (n * 5) (ProjectorC l)) :
    Calls Tryd.prog 13 #[.slice A n c, .slice A' n c'] w fun e w' => e = .returned (.bool true) ∧ Below w.heap.size w w' := by
  have hn' : (n : Int) ≤ 9223372036854775807 := by omega
  go_enter Tryd.func13, Tryd.ntmps13
  go_wp2_with fail
  go_loopw [5] (fun i wr => ∃ k : Nat, k ≤ n ∧ i = .int .i64 k ∧ Below w.heap.size w wr) (fun i _ => n - (intOf i).toNat)
  case atStart => exact ⟨0, Nat.zero_le _, rfl, Below.refl _ _⟩
  case round =>
    obtain ⟨k, hk, rfl, hbl⟩ := hrel
    by_cases hlt : k < n
    · obtain ⟨b, off, rfl, hb, hc⟩ := hs (by omega)
      obtain ⟨b', off', rfl, hb', hc'⟩ := hs' (by omega)
      have hbr : b < wr.heap.size := by have := hbl.size; omega
      have hbr' : b' < wr.heap.size := by have := hbl.size; omega
      have d0 : wr.cell? ⟨b, off + k * 5, none⟩ = some (.string (l k).f0) := by rw [hbl.cell (by exact hb), hc _ (by omega), ProjectorC0]
      have d1 : wr.cell? ⟨b, off + k * 5 + 1, none⟩ = some (.int .i64 (l k).f1) := by rw [hbl.cell (by exact hb), Nat.add_assoc, hc _ (by omega), ProjectorC1]
      have d2 : wr.cell? ⟨b, off + k * 5 + 2, none⟩ = some (.int .i64 (l k).f2) := by rw [hbl.cell (by exact hb), Nat.add_assoc, hc _ (by omega), ProjectorC2]
      have d3 : wr.cell? ⟨b, off + k * 5 + 3, none⟩ = some (.int .i64 (l k).f3) := by rw [hbl.cell (by exact hb), Nat.add_assoc, hc _ (by omega), ProjectorC3]
      have d4 : wr.cell? ⟨b, off + k * 5 + 4, none⟩ = some (.int .i64 (l k).f4) := by rw [hbl.cell (by exact hb), Nat.add_assoc, hc _ (by omega), ProjectorC4]
      have d'0 : wr.cell? ⟨b', off' + k * 5, none⟩ = some (.string (l k).f0) := by rw [hbl.cell (by exact hb'), hc' _ (by omega), ProjectorC0]
      have d'1 : wr.cell? ⟨b', off' + k * 5 + 1, none⟩ = some (.int .i64 (l k).f1) := by rw [hbl.cell (by exact hb'), Nat.add_assoc, hc' _ (by omega), ProjectorC1]
      have d'2 : wr.cell? ⟨b', off' + k * 5 + 2, none⟩ = some (.int .i64 (l k).f2) := by rw [hbl.cell (by exact hb'), Nat.add_assoc, hc' _ (by omega), ProjectorC2]
      have d'3 : wr.cell? ⟨b', off' + k * 5 + 3, none⟩ = some (.int .i64 (l k).f3) := by rw [hbl.cell (by exact hb'), Nat.add_assoc, hc' _ (by omega), ProjectorC3]
      have d'4 : wr.cell? ⟨b', off' + k * 5 + 4, none⟩ = some (.int .i64 (l k).f4) := by rw [hbl.cell (by exact hb'), Nat.add_assoc, hc' _ (by omega), ProjectorC4]
      clear hc hc'
      go_wp2_with fail
      refine wp_region_ext (by kernel_rfl) (by kernel_rfl) ?_
      repeat (go_big_quiet_step ((go_at_call 70; exact quiet_ext (eqProjector_yes _ _ _ _ _ _))))
      refine wpQuiet_nil ?_
      intro e1
      have hb1 := e1.below
      go_wp2_with fail
      go_roundw
      case rel => exact ⟨k + 1, by omega, by go_num, hbl.trans (hb1.mono hbl.size)⟩
      case measure => simp [intOf]; omega
    · go_wp2_with fail
      go_ret
      exact ⟨rfl, hbl⟩

def ProjectorK : Nat → Bool | 0 => true | _ => false
def ProjectorM (k0 : Int) (m : Nat) (f : Nat → Value) : Nat → Value := mkK ProjectorK 5 k0 m f
set_option maxHeartbeats 2000000 in
theorem markProjectorS_blk (B n c m : Nat) (k0 : Int) (f : Nat → Value) (w : World) (hn : n ≤ 1048576) (hk0 : 0 < k0) (hk1 : k0 ≤ 1000000000) (hm : n * 5 ≤ m) (hblk0 : Blk w B 43 (arr m f)) :
    Calls Tryd.prog 14 #[.slice (some ⟨B, 0, none⟩) n c, .int .i64 k0] w fun e w' => e = .returned (.int .i64 (k0 + (n : Int) * 5)) ∧ w.grownBy w' (some B) ∧ Blk w' B 43 (arr m (ProjectorM k0 (n * 5) f)) := by
  have hn' : (n : Int) ≤ 1048576 := by omega
  unfold ProjectorM
  go_enter Tryd.func14, Tryd.ntmps14
  go_wp2_with fail
  go_loopw [1, 5] (fun t i wr => ∃ k : Nat, k ≤ n ∧ i = .int .i64 k ∧ t = .int .i64 (k0 + (k : Int) * 5) ∧ w.grownBy wr (some B) ∧ Blk wr B 43 (arr m (mkK ProjectorK 5 k0 (k * 5) f))) (fun _ i _ => n - (intOf i).toNat)
  case atStart => exact ⟨0, Nat.zero_le _, rfl, ret_num (by omega), World.grownBy.refl _ _, hblk0.congr (fun j _ => (mkK_out (by omega)).symm)⟩
  case round =>
    obtain ⟨k, hk, rfl, rfl, hbl, hblk⟩ := hrel
    by_cases hlt : k < n
    · go_wp2_with fail
      refine (markText_any _ _ (by omega) (by omega)).mono ?_
      rintro e w2 ⟨rfl, hb2⟩
      have hblk2 := hblk.below hb2 hblk.lt
      have hbl2 := only_then hbl hb2
      have hgr : B < w2.heap.size := hblk2.lt
      obtain ⟨v0, s0⟩ : ∃ v, w2.cell? ⟨B, k * 5, none⟩ = some v := ⟨_, by rw [hblk2.cell, arr_get _ _ _ (by omega)]⟩
      obtain ⟨v1, s1⟩ : ∃ v, w2.cell? ⟨B, k * 5 + 1, none⟩ = some v := ⟨_, by rw [hblk2.cell, arr_get _ _ _ (by omega)]⟩
      obtain ⟨v2, s2⟩ : ∃ v, w2.cell? ⟨B, k * 5 + 2, none⟩ = some v := ⟨_, by rw [hblk2.cell, arr_get _ _ _ (by omega)]⟩
      obtain ⟨v3, s3⟩ : ∃ v, w2.cell? ⟨B, k * 5 + 3, none⟩ = some v := ⟨_, by rw [hblk2.cell, arr_get _ _ _ (by omega)]⟩
      obtain ⟨v4, s4⟩ : ∃ v, w2.cell? ⟨B, k * 5 + 4, none⟩ = some v := ⟨_, by rw [hblk2.cell, arr_get _ _ _ (by omega)]⟩
      have r0 : w2.frozen? ⟨B, k * 5, none⟩ = false := hblk2.frozen _
      have r1 : w2.frozen? ⟨B, k * 5 + 1, none⟩ = false := hblk2.frozen _
      have r2 : w2.frozen? ⟨B, k * 5 + 2, none⟩ = false := hblk2.frozen _
      have r3 : w2.frozen? ⟨B, k * 5 + 3, none⟩ = false := hblk2.frozen _
      have r4 : w2.frozen? ⟨B, k * 5 + 4, none⟩ = false := hblk2.frozen _
      go_wp2_with fail
      go_roundw
      case rel =>
        refine ⟨k + 1, by omega, by go_num, ret_num (by omega), ?_, ?_⟩
        · refine only_setCell ?_ (.inl rfl) _; refine only_setCell ?_ (.inl rfl) _; refine only_setCell ?_ (.inl rfl) _; refine only_setCell ?_ (.inl rfl) _; refine only_setCell ?_ (.inl rfl) _; exact hbl2
        · have h := hblk2
          have h := h.set_ (k * 5) (.string (mkTx (k0 + (k : Int) * 5)))
          have h := h.set_ (k * 5 + 1) (.int .i64 (k0 + (k : Int) * 5 + 1))
          have h := h.set_ (k * 5 + 2) (.int .i64 (k0 + (k : Int) * 5 + 1 + 1))
          have h := h.set_ (k * 5 + 3) (.int .i64 (k0 + (k : Int) * 5 + 1 + 1 + 1))
          have h := h.set_ (k * 5 + 4) (.int .i64 (k0 + (k : Int) * 5 + 1 + 1 + 1 + 1))
          rw [arr_set, arr_set, arr_set, arr_set, arr_set] at h
          exact mkK_step5 h (mkV_s rfl (by omega)) (mkV_i rfl (by omega)) (mkV_i rfl (by omega)) (mkV_i rfl (by omega)) (mkV_i rfl (by omega))
      case measure => simp [intOf]; omega
    · go_wp2_with fail
      go_ret
      have : k = n := by omega
      subst this
      exact ⟨rfl, hbl, hblk⟩
theorem markProjectorS_nil (k0 : Int) (w : World) :
    Calls Tryd.prog 14 #[.slice none 0 0, .int .i64 k0] w fun e w' => e = .returned (.int .i64 k0) ∧ w = w' := by
  go_enter Tryd.func14, Tryd.ntmps14
  go_wp2_with fail
  go_loop [1, 5] (fun t i => i = .int .i64 0 ∧ t = .int .i64 k0) (fun _ _ => 0)
  case atStart => exact ⟨rfl, rfl⟩
  case round =>
    obtain ⟨rfl, rfl⟩ := hrel
    go_wp2_with fail
    go_ret
    exact ⟨rfl, rfl⟩
theorem markProjectorS_any (base : Nat) (A : Option Addr) (n c : Nat) (k0 : Int) (f : Nat → Value) (w : World) (hn : n ≤ 1048576) (hk0 : 0 < k0) (hk1 : k0 ≤ 1000000000) (ho : Own w base 43 5 A n f) (hc : A = none → c = 0) :
    Calls Tryd.prog 14 #[.slice A n c, .int .i64 k0] w fun e w' => e = .returned (.int .i64 (k0 + (n : Int) * 5)) ∧ w.grownBy w' (blockOf A) ∧ Own w' base 43 5 A n (ProjectorM k0 (n * 5) f) := by
  rcases ho with ⟨rfl, rfl⟩ | ⟨B, m, h, rfl, hb, hk, hm, hf⟩
  · obtain rfl := hc rfl
    refine (markProjectorS_nil k0 w).mono ?_
    rintro e w' ⟨rfl, rfl⟩
    exact ⟨ret_int (by omega), World.grownBy.refl _ _, .inl ⟨rfl, rfl⟩⟩
  · refine (markProjectorS_blk B n c m k0 h w hn hk0 hk1 hm hk).mono ?_
    rintro e w' ⟨rfl, hg, hk'⟩
    exact ⟨rfl, hg, .inr ⟨B, m, _, rfl, hb, hk', hm, fun j hj => by unfold ProjectorM mkK; rw [if_pos hj, if_pos hj]⟩⟩

end Go.Proofs.YthjllledhcfnhaaDoor
