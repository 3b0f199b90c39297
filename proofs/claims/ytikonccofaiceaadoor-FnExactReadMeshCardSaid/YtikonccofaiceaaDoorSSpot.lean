/- The law file's own helpers over Spot: copying, sizing, comparing, marking. No condition beyond those stated. -/
import Derived.Test.YtikonccofaiceaaDoorRows
import Derived.Test.YtikonccofaiceaaDoorAppend
import Derived.Lib.SliceRun
namespace Go.Proofs.YtikonccofaiceaaDoor
open Go.RowKit Go.Lib Go.Ks

theorem toSpot_any (x0 : Int) (x1 : Int) (w : World) :
    Calls Tryd.prog 90 #[.agg #[.int .i64 x0, .int .i64 x1]] w fun e w' => e = .returned (.agg #[.int .i64 x0, .int .i64 x1]) ∧ Below w.heap.size w w' := by
  go_enter Tryd.func90, Tryd.ntmps90
  go_wp2
  exact bodyPost_ret (v := .agg #[.int .i64 x0, .int .i64 x1]) (by simp [results, Tryd.results90, go_sem]) rfl ⟨rfl, by
    repeat (first | with_reducible exact Below.refl _ _ | with_reducible assumption | with_reducible refine Below.setCell ?_ (by simp <;> omega) _ | with_reducible refine Below.alloc ?_ (by simp <;> omega) _ | with_reducible refine Below.drew ?_)⟩

theorem szSpotS_any (A : Option Addr) (n c : Nat) (left : Int) (hn : n ≤ 9223372036854775807) (hl : 0 ≤ left) (hl2 : left ≤ 1048576) (w : World) :
    Calls Tryd.prog 47 #[.slice A n c, .int .i64 left] w fun e w' => SzR left ((n : Int) ≤ left) e ∧ Below w.heap.size w w' := by
  have q : (n : Int) ≤ 9223372036854775807 := by omega
  go_enter Tryd.func47, Tryd.ntmps47
  go_wp2
  all_goals go_ret
  all_goals refine ⟨?_, by repeat (first | with_reducible exact Below.refl _ _ | with_reducible assumption | with_reducible refine Below.setCell ?_ (by simp <;> omega) _ | with_reducible refine Below.alloc ?_ (by simp <;> omega) _ | with_reducible refine Below.drew ?_)⟩
  all_goals first | exact SzR.no _ _ | exact SzR.yes (by omega) (by omega) (by omega)

theorem Tryd.info49 : (Tryd.prog.info? 49).map (fun i => (i.zero, i.size, i.bytes)) = some (some (.agg #[.int .i64 0, .int .i64 0]), 2, 16) := by kernel_rfl
def zcSpot : Nat → Value := rc 2 (fun i _ => match i with | 0 => .int .i64 0 | _ => .int .i64 0)
set_option maxHeartbeats 800000 in
theorem toSpotS_any (A : Option Addr) (n c : Nat) (l : Nat → SpotD) (w : World) (hn : n ≤ 1048576) (hs : Sl w A (n * 2) (SpotC l)) :
    Calls Tryd.prog 50 #[.slice A n c] w fun e w' => e = .returned (.slice (some ⟨w.heap.size, 0, none⟩) n n) ∧ Below w.heap.size w w' ∧ Blk w' w.heap.size 49 (arr (n * 2) (SpotC l)) := by
  obtain ⟨i0, hi, hz0, hz1, hz2⟩ := info_parts Tryd.info49
  have hmk := fun W => run_make_rowN (P := Tryd.prog) 27 49 i0 _ Tryd.underlying27 hi hz0 .i64 .i64 n n (Nat.le_refl _) (by rw [hz2]; omega) (by omega) W
  rw [hz1] at hmk
  have hn' : (n : Int) ≤ 1048576 := by omega
  go_enter Tryd.func50, Tryd.ntmps50
  go_wp2_with fail
  clear hmk
  go_loopw [4] (fun i wr => ∃ k : Nat, k ≤ n ∧ i = .int .i64 k ∧ Below w.heap.size w wr ∧ Blk wr w.heap.size 49 (arr (n * 2) (fun j => if j < k * 2 then SpotC l j else zcSpot j))) (fun i _ => n - (intOf i).toNat)
  case atStart =>
    refine ⟨0, Nat.zero_le _, rfl, ?_, ?_⟩
    · repeat (first | with_reducible exact Below.refl _ _ | with_reducible assumption | with_reducible refine Below.setCell ?_ (by simp <;> omega) _ | with_reducible refine Below.alloc ?_ (by simp <;> omega) _ | with_reducible refine Below.drew ?_)
    · have : arr (n * 2) (fun j => if j < 0 * 2 then SpotC l j else zcSpot j) = madeCells (Value.agg #[.int .i64 0, .int .i64 0]).cells (n * 2) := by
        rw [made_arr]
        apply arr_ext
        intro j _
        have hj : j % 2 < 2 := Nat.mod_lt _ (by decide)
        rw [if_neg (by omega)]
        unfold zcSpot rc
        simp only [Value.cells]
        generalize j % 2 = m at hj
        match m, hj with
        | 0, _ => rfl
        | 1, _ => rfl
      rw [this]
      exact Blk.new _ _ _
  case round =>
    obtain ⟨k, hk, rfl, hbl, hblk⟩ := hrel
    by_cases hlt : k < n
    · obtain ⟨b, off, rfl, hb, hc⟩ := hs (by omega)
      have hbr : b < wr.heap.size := by have := hbl.size; omega
      have hgr : w.heap.size < wr.heap.size := hblk.lt
      have d0 : wr.cell? ⟨b, off + k * 2, none⟩ = some (.int .i64 (l k).f0) := by rw [hbl.cell (by exact hb), hc _ (by omega), SpotC0]
      have d1 : wr.cell? ⟨b, off + k * 2 + 1, none⟩ = some (.int .i64 (l k).f1) := by rw [hbl.cell (by exact hb), Nat.add_assoc, hc _ (by omega), SpotC1]
      clear hc
      go_wp2_with fail
      refine (toSpot_any _ _ _).mono ?_
      rintro e w2 ⟨rfl, hb2⟩
      have hblk2 := hblk.below hb2 hgr
      have hg2 : w.heap.size < w2.heap.size := hblk2.lt
      have s0 : w2.cell? ⟨w.heap.size, k * 2, none⟩ = some (zcSpot (k * 2)) := by rw [hblk2.cell, arr_get _ _ _ (by omega), if_neg (by omega)]
      have s1 : w2.cell? ⟨w.heap.size, k * 2 + 1, none⟩ = some (zcSpot (k * 2 + 1)) := by rw [hblk2.cell, arr_get _ _ _ (by omega), if_neg (by omega)]
      have r0 : w2.frozen? ⟨w.heap.size, k * 2, none⟩ = false := hblk2.frozen _
      have r1 : w2.frozen? ⟨w.heap.size, k * 2 + 1, none⟩ = false := hblk2.frozen _
      go_wp2_with fail
      go_roundw
      case rel =>
        refine ⟨k + 1, by omega, by go_num, ?_, ?_⟩
        · have hbl2 := hbl.trans (hb2.mono hbl.size)
          repeat (first | with_reducible exact Below.refl _ _ | with_reducible assumption | with_reducible refine Below.setCell ?_ (by simp <;> omega) _ | with_reducible refine Below.alloc ?_ (by simp <;> omega) _ | with_reducible refine Below.drew ?_)
        · have h := hblk2.set_ (k * 2) (.int .i64 (l k).f0)
          have h := h.set_ (k * 2 + 1) (.int .i64 (l k).f1)
          rw [arr_set, arr_set] at h
          exact to_step2 h (SpotC0 l k) (SpotC1 l k)
      case measure => simp [intOf]; omega
    · go_wp2_with fail
      go_ret
      have : k = n := by omega
      subst this
      exact ⟨rfl, hbl, hblk.congr (fun j hj => if_pos hj)⟩

theorem Tryd.infoC49 : (Tryd.prog.info? 49).map (fun i => (i.zero, i.size, i.bytes)) = some (some (.agg #[.int .i64 0, .int .i64 0]), 2, 16) := by kernel_rfl
theorem oneSpot (l : Nat → SpotD) (j : Nat) : (SpotC l j).oneCell' = true := by
  unfold SpotC rc
  have hj : j % 2 < 2 := Nat.mod_lt _ (by decide)
  generalize j % 2 = m at hj
  match m, hj with
  | 0, _ => rfl
  | 1, _ => rfl

set_option maxHeartbeats 800000 in
theorem cloneSpot_any (A : Option Addr) (n c : Nat) (l : Nat → SpotD) (w : World) (hn : n ≤ 1048576) (hpos : 0 < n) (hs : Sl w A (n * 2) (SpotC l)) :
    Calls Tryd.prog 63 #[.slice A n c] w fun e w' => (∃ A' c', e = .returned (.slice A' n c') ∧ Own w' w.heap.size 49 2 A' n (SpotC l) ∧ (A' = none → c' = 0)) ∧ Below w.heap.size w w' := by
  obtain ⟨b, off, rfl, hb, hc⟩ := hs (by omega)
  obtain ⟨i0, hi, hz0, hz1, hz2⟩ := info_parts Tryd.infoC49
  have heq := fun W => Lib.run_eql_slice_nil (P := Tryd.prog) W 27 49 (some ⟨b, off, none⟩) n c 0 0 Tryd.underlying27
  have HC := Lib.hid hc
  clear hc
  go_enter Tryd.func63, Tryd.ntmps63
  go_wp2_with (at_builtin; refine wpList_append_all rfl _ _ 27 rfl w.heap.size 49 i0 _ 2 16 Tryd.underlying27 hi hz0 hz1 hz2 rfl (by decide) _ (SpotC l) rfl (Row.empty _ _ _ _ (Nat.le_refl _)) b off n c rfl ?c1 (fun j _ => oneSpot l j) ?c3 ?c4 ?c5 ?_)
  case c1 => intro j hj; rw [World.cell?_alloc_past (n := b) (i := off + j) _ (by exact hb)]; exact HC.out j hj
  case c3 => omega
  case c4 => omega
  case c5 => simp
  intro v' w5 hrow5 hg5
  have hbl5 : Below w.heap.size w w5 := ((Below.refl w.heap.size w).alloc (Nat.le_refl _) _).grown hg5 (by simp) (fun k hk => by simp [Value.ownBlock] at hk; omega)
  obtain ⟨A', c', rfl, _, hown, hz⟩ := hrow5.own
  clear hg5
  go_wp2_with fail
  go_ret
  exact ⟨⟨A', c', rfl, hown, hz⟩, hbl5⟩

theorem eqSpot_yes (x0 : Int) (x1 : Int) (w : World) :
    Calls Tryd.prog 92 #[.agg #[.int .i64 x0, .int .i64 x1], .agg #[.int .i64 x0, .int .i64 x1]] w fun e w' => e = .returned (.bool true) ∧ Below w.heap.size w w' := by
  go_enter Tryd.func92, Tryd.ntmps92
  go_wp2
  go_ret
  exact ⟨rfl, by repeat (first | with_reducible exact Below.refl _ _ | with_reducible assumption | with_reducible refine Below.setCell ?_ (by simp <;> omega) _ | with_reducible refine Below.alloc ?_ (by simp <;> omega) _ | with_reducible refine Below.drew ?_)⟩

set_option maxHeartbeats 800000 in
theorem eqSpotS_yes (A A' : Option Addr) (n c c' : Nat) (l : Nat → SpotD) (w : World) (hn : n ≤ 9223372036854775807) (hs : Sl w A (n * 2) (SpotC l)) (hs' : Sl w A' (n * 2) (SpotC l)) :
    Calls Tryd.prog 53 #[.slice A n c, .slice A' n c'] w fun e w' => e = .returned (.bool true) ∧ Below w.heap.size w w' := by
  have hn' : (n : Int) ≤ 9223372036854775807 := by omega
  go_enter Tryd.func53, Tryd.ntmps53
  go_wp2_with fail
  go_loopw [5] (fun i wr => ∃ k : Nat, k ≤ n ∧ i = .int .i64 k ∧ Below w.heap.size w wr) (fun i _ => n - (intOf i).toNat)
  case atStart => exact ⟨0, Nat.zero_le _, rfl, Below.refl _ _⟩
  case round =>
    obtain ⟨k, hk, rfl, hbl⟩ := hrel
    by_cases hlt : k < n
    · obtain ⟨b, off, rfl, hb, hc⟩ := hs (by omega)
      obtain ⟨b', off', rfl, hb', hc'⟩ := hs' (by omega)
      have hbr : b < wr.heap.size := by have := hbl.size; omega
      have hbr' : b' < wr.heap.size := by have := hbl.size; omega
      have d0 : wr.cell? ⟨b, off + k * 2, none⟩ = some (.int .i64 (l k).f0) := by rw [hbl.cell (by exact hb), hc _ (by omega), SpotC0]
      have d1 : wr.cell? ⟨b, off + k * 2 + 1, none⟩ = some (.int .i64 (l k).f1) := by rw [hbl.cell (by exact hb), Nat.add_assoc, hc _ (by omega), SpotC1]
      have d'0 : wr.cell? ⟨b', off' + k * 2, none⟩ = some (.int .i64 (l k).f0) := by rw [hbl.cell (by exact hb'), hc' _ (by omega), SpotC0]
      have d'1 : wr.cell? ⟨b', off' + k * 2 + 1, none⟩ = some (.int .i64 (l k).f1) := by rw [hbl.cell (by exact hb'), Nat.add_assoc, hc' _ (by omega), SpotC1]
      clear hc hc'
      go_wp2_with fail
      refine wp_region_ext (by kernel_rfl) (by kernel_rfl) ?_
      repeat (go_big_quiet_step ((go_at_call 92; exact quiet_ext (eqSpot_yes _ _ _))))
      refine wpQuiet_nil ?_
      intro e1
      have hb1 := e1.below
      go_wp2_with fail
      go_roundw
      case rel => exact ⟨k + 1, by omega, by go_num, hbl.trans (hb1.mono hbl.size)⟩
      case measure => simp [intOf]; omega
    · go_wp2_with fail
      go_ret
      exact ⟨rfl, hbl⟩

set_option maxHeartbeats 800000 in
theorem markSpotS_blk (B n c m : Nat) (k0 : Int) (f : Nat → Value) (w : World) (hn : n ≤ 1048576) (hk0 : 0 ≤ k0) (hk1 : k0 ≤ 1000000000) (hm : n * 2 ≤ m) (hblk0 : Blk w B 49 (arr m f)) :
    Calls Tryd.prog 58 #[.slice (some ⟨B, 0, none⟩) n c, .int .i64 k0] w fun e w' => e = .returned (.int .i64 (k0 + (n : Int) * 2)) ∧ w.grownBy w' (some B) ∧ Blk w' B 49 (arr m (mk k0 (n * 2) f)) := by
  have hn' : (n : Int) ≤ 1048576 := by omega
  go_enter Tryd.func58, Tryd.ntmps58
  go_wp2_with fail
  go_loopw [1, 5] (fun t i wr => ∃ k : Nat, k ≤ n ∧ i = .int .i64 k ∧ t = .int .i64 (k0 + (k : Int) * 2) ∧ w.grownBy wr (some B) ∧ Blk wr B 49 (arr m (mk k0 (k * 2) f))) (fun _ i _ => n - (intOf i).toNat)
  case atStart => exact ⟨0, Nat.zero_le _, rfl, ret_num (by omega), World.grownBy.refl _ _, hblk0.congr (fun j _ => (mk_out (by omega)).symm)⟩
  case round =>
    obtain ⟨k, hk, rfl, rfl, hbl, hblk⟩ := hrel
    by_cases hlt : k < n
    · have hgr : B < wr.heap.size := hblk.lt
      obtain ⟨v0, s0⟩ : ∃ v, wr.cell? ⟨B, k * 2, none⟩ = some v := ⟨_, by rw [hblk.cell, arr_get _ _ _ (by omega)]⟩
      obtain ⟨v1, s1⟩ : ∃ v, wr.cell? ⟨B, k * 2 + 1, none⟩ = some v := ⟨_, by rw [hblk.cell, arr_get _ _ _ (by omega)]⟩
      have r0 : wr.frozen? ⟨B, k * 2, none⟩ = false := hblk.frozen _
      have r1 : wr.frozen? ⟨B, k * 2 + 1, none⟩ = false := hblk.frozen _
      go_wp2_with fail
      go_roundw
      case rel =>
        refine ⟨k + 1, by omega, by go_num, ret_num (by omega), ?_, ?_⟩
        · refine only_setCell ?_ (.inl rfl) _; refine only_setCell ?_ (.inl rfl) _; exact hbl
        · have h := hblk
          have h := h.set_ (k * 2) (.int .i64 (k0 + (k : Int) * 2))
          have h := h.set_ (k * 2 + 1) (.int .i64 (k0 + (k : Int) * 2 + 1))
          rw [arr_set, arr_set] at h
          exact mk_step2 h (by omega) (by omega)
      case measure => simp [intOf]; omega
    · go_wp2_with fail
      go_ret
      have : k = n := by omega
      subst this
      exact ⟨rfl, hbl, hblk⟩
theorem markSpotS_nil (k0 : Int) (w : World) :
    Calls Tryd.prog 58 #[.slice none 0 0, .int .i64 k0] w fun e w' => e = .returned (.int .i64 k0) ∧ w = w' := by
  go_enter Tryd.func58, Tryd.ntmps58
  go_wp2_with fail
  go_loop [1, 5] (fun t i => i = .int .i64 0 ∧ t = .int .i64 k0) (fun _ _ => 0)
  case atStart => exact ⟨rfl, rfl⟩
  case round =>
    obtain ⟨rfl, rfl⟩ := hrel
    go_wp2_with fail
    go_ret
    exact ⟨rfl, rfl⟩
theorem markSpotS_any (base : Nat) (A : Option Addr) (n c : Nat) (k0 : Int) (f : Nat → Value) (w : World) (hn : n ≤ 1048576) (hk0 : 0 ≤ k0) (hk1 : k0 ≤ 1000000000) (ho : Own w base 49 2 A n f) (hc : A = none → c = 0) :
    Calls Tryd.prog 58 #[.slice A n c, .int .i64 k0] w fun e w' => e = .returned (.int .i64 (k0 + (n : Int) * 2)) ∧ w.grownBy w' (blockOf A) ∧ Own w' base 49 2 A n (mk k0 (n * 2) f) := by
  rcases ho with ⟨rfl, rfl⟩ | ⟨B, m, h, rfl, hb, hk, hm, hf⟩
  · obtain rfl := hc rfl
    refine (markSpotS_nil k0 w).mono ?_
    rintro e w' ⟨rfl, rfl⟩
    exact ⟨ret_int (by omega), World.grownBy.refl _ _, .inl ⟨rfl, rfl⟩⟩
  · refine (markSpotS_blk B n c m k0 h w hn hk0 hk1 hm hk).mono ?_
    rintro e w' ⟨rfl, hg, hk'⟩
    exact ⟨rfl, hg, .inr ⟨B, m, _, rfl, hb, hk', hm, fun j hj => by unfold mk; rw [if_pos hj, if_pos hj]⟩⟩

set_option maxHeartbeats 800000 in
theorem heldSpotS_any (A : Option Addr) (n c : Nat) (k0 : Int) (f : Nat → Value) (w : World) (hn : n ≤ 1048576) (hk0 : 0 ≤ k0) (hk1 : k0 ≤ 1000000000) (hs : Sl w A (n * 2) (mk k0 (n * 2) f)) :
    Calls Tryd.prog 59 #[.slice A n c, .int .i64 k0] w fun e w' => e = .returned (.int .i64 (k0 + (n : Int) * 2)) ∧ Below w.heap.size w w' := by
  have hn' : (n : Int) ≤ 1048576 := by omega
  go_enter Tryd.func59, Tryd.ntmps59
  go_wp2_with fail
  go_loopw [1, 5] (fun t i wr => ∃ k : Nat, k ≤ n ∧ i = .int .i64 k ∧ t = .int .i64 (k0 + (k : Int) * 2) ∧ Below w.heap.size w wr) (fun _ i _ => n - (intOf i).toNat)
  case atStart => exact ⟨0, Nat.zero_le _, rfl, ret_num (by omega), Below.refl _ _⟩
  case round =>
    obtain ⟨k, hk, rfl, rfl, hbl⟩ := hrel
    by_cases hlt : k < n
    · obtain ⟨b, off, rfl, hb, hc⟩ := hs (by omega)
      have d0 : wr.cell? ⟨b, off + k * 2, none⟩ = some (.int .i64 (k0 + (k : Int) * 2)) := by rw [hbl.cell (by exact hb), hc _ (by omega)]; exact mk_at (by omega) (by omega)
      have d1 : wr.cell? ⟨b, off + k * 2 + 1, none⟩ = some (.int .i64 (k0 + (k : Int) * 2 + 1)) := by rw [hbl.cell (by exact hb), Nat.add_assoc, hc _ (by omega)]; exact mk_at (by omega) (by omega)
      clear hc
      go_wp2_with fail
      go_roundw
      case rel => exact ⟨k + 1, by omega, by go_num, ret_num (by omega), hbl⟩
      case measure => simp [intOf]; omega
    · go_wp2_with fail
      go_ret
      have : k = n := by omega
      subst this
      exact ⟨rfl, hbl⟩

end Go.Proofs.YtikonccofaiceaaDoor
