/- Lists of int64: copies and comparisons of the laws. Conditions: the slice reads as told. -/
import Derived.Test.YthjllledhcfnhaaDoorRows
import Derived.Test.YthjllledhcfnhaaDoorAppend
import Derived.Lib.SliceRun
import Derived.Deep.DeepCutAuto
namespace Go.Proofs.YthjllledhcfnhaaDoor
open Go.RowKit Go.Lib Go.Ks
def IntC (l : Nat → Int) : Nat → Value := fun j => .int .i64 (l j)
set_option maxHeartbeats 800000 in
theorem eqInt64S_yes (A A' : Option Addr) (n c c' : Nat) (l : Nat → Int) (w : World) (hn : n ≤ 1048576) (hs : Sl w A (n * 1) (IntC l)) (hs' : Sl w A' (n * 1) (IntC l)) :
    Calls Tryd.prog 12 #[.slice A n c, .slice A' n c'] w fun e w' => e = .returned (.bool true) ∧ Below w.heap.size w w' := by
  have hn' : (n : Int) ≤ 9223372036854775807 := by omega
  go_enter Tryd.func12, Tryd.ntmps12
  go_wp2_with fail
  go_loopw [5] (fun i wr => ∃ k : Nat, k ≤ n ∧ i = .int .i64 k ∧ Below w.heap.size w wr) (fun i _ => n - (intOf i).toNat)
  case atStart => exact ⟨0, Nat.zero_le _, rfl, Below.refl _ _⟩
  case round =>
    obtain ⟨k, hk, rfl, hbl⟩ := hrel
    by_cases hlt : k < n
    · obtain ⟨b, off, rfl, hb, hc⟩ := hs (by omega)
      obtain ⟨b', off', rfl, hb', hc'⟩ := hs' (by omega)
      have hbr : b < wr.heap.size := by have := hbl.size; omega
      have hbr' : b' < wr.heap.size := by have := hbl.size; omega
      have d0 : wr.cell? ⟨b, off + k, none⟩ = some (.int .i64 (l k)) := by rw [hbl.cell (by exact hb), hc _ (by omega)]; rfl
      have d'0 : wr.cell? ⟨b', off' + k, none⟩ = some (.int .i64 (l k)) := by rw [hbl.cell (by exact hb'), hc' _ (by omega)]; rfl
      clear hc hc'
      go_wp2_with fail
      refine wp_region_ext (by kernel_rfl) (by kernel_rfl) ?_
      repeat (go_big_quiet_step (fail))
      refine wpQuiet_nil ?_
      intro e1
      have hb1 := e1.below
      go_wp2_with fail
      go_roundw
      case rel => exact ⟨k + 1, by omega, by go_num, hbl.trans (hb1.mono hbl.size)⟩
      case measure => simp [intOf]; omega
    · go_wp2_with fail
      go_ret
      exact ⟨rfl, hbl⟩
theorem Tryd.infoI64 : (Tryd.prog.info? 2).map (fun i => (i.zero, i.size, i.bytes)) = some (some (.int .i64 0), 1, 8) := by kernel_rfl
theorem to_step1 {w : World} {B : Nat} {t : TypeId} {m k : Nat} {C z : Nat → Value} {v0 : Value} (h : Blk w B t (arr m (fun j => if j = k then v0 else if j < k then C j else z j))) (h0 : C k = v0) : Blk w B t (arr m (fun j => if j < k + 1 then C j else z j)) := h.congr (fun j _ => by
  by_cases e0 : j = k
  · rw [if_pos e0, if_pos (by omega), ← h0, e0]
  rw [if_neg e0]
  by_cases hx : j < k
  · rw [if_pos hx, if_pos (by omega)]
  · rw [if_neg hx, if_neg (by omega)])
theorem mk_step1 {w : World} {B m k : Nat} {t : TypeId} {k0 : Int} {f : Nat → Value} (h : Blk w B t (arr m (fun j => if j = k then .int .i64 (k0 + (k : Int)) else mk k0 k f j))) : Blk w B t (arr m (mk k0 (k + 1) f)) := by
  refine h.congr fun j _ => ?_
  by_cases hj : j = k
  · subst hj; rw [if_pos rfl]; unfold mk; rw [if_pos (by omega)]
  · rw [if_neg hj]
    unfold mk
    by_cases h2 : j < k
    · rw [if_pos h2, if_pos (by omega)]
    · rw [if_neg h2, if_neg (by omega)]
set_option maxHeartbeats 800000 in
theorem markInt64S_blk (B n c m : Nat) (k0 : Int) (f : Nat → Value) (w : World) (hn : n ≤ 1048576) (hk0 : 0 ≤ k0) (hk1 : k0 ≤ 1000000000) (hm : n * 1 ≤ m) (hblk0 : Blk w B 2 (arr m f)) :
    Calls Tryd.prog 15 #[.slice (some ⟨B, 0, none⟩) n c, .int .i64 k0] w fun e w' => e = .returned (.int .i64 (k0 + (n : Int))) ∧ w.grownBy w' (some B) ∧ Blk w' B 2 (arr m (mk k0 (n * 1) f)) := by
  have hn' : (n : Int) ≤ 1048576 := by omega
  go_enter Tryd.func15, Tryd.ntmps15
  go_wp2_with fail
  go_loopw [1, 5] (fun t i wr => ∃ k : Nat, k ≤ n ∧ i = .int .i64 k ∧ t = .int .i64 (k0 + (k : Int)) ∧ w.grownBy wr (some B) ∧ Blk wr B 2 (arr m (mk k0 k f))) (fun _ i _ => n - (intOf i).toNat)
  case atStart => exact ⟨0, Nat.zero_le _, rfl, ret_num (by omega), World.grownBy.refl _ _, hblk0.congr (fun j _ => (mk_out (by omega)).symm)⟩
  case round =>
    obtain ⟨k, hk, rfl, rfl, hbl, hblk⟩ := hrel
    by_cases hlt : k < n
    · have hgr : B < wr.heap.size := hblk.lt
      obtain ⟨v0, s0⟩ : ∃ v, wr.cell? ⟨B, k, none⟩ = some v := ⟨_, by rw [hblk.cell, arr_get _ _ _ (by omega)]⟩
      have r0 : wr.frozen? ⟨B, k, none⟩ = false := hblk.frozen _
      go_wp2_with fail
      go_roundw
      case rel =>
        refine ⟨k + 1, by omega, by go_num, ret_num (by omega), ?_, ?_⟩
        · exact only_setCell hbl (.inl rfl) _
        · have h := hblk.set_ k (.int .i64 (k0 + (k : Int)))
          rw [arr_set] at h
          exact mk_step1 h
      case measure => simp [intOf]; omega
    · go_wp2_with fail
      go_ret
      have : k = n := by omega
      subst this
      exact ⟨rfl, hbl, by rw [Nat.mul_one]; exact hblk⟩
theorem markInt64S_nil (k0 : Int) (w : World) :
    Calls Tryd.prog 15 #[.slice none 0 0, .int .i64 k0] w fun e w' => e = .returned (.int .i64 k0) ∧ w = w' := by
  go_enter Tryd.func15, Tryd.ntmps15
  go_wp2_with fail
  go_loop [1, 5] (fun t i => i = .int .i64 0 ∧ t = .int .i64 k0) (fun _ _ => 0)
  case atStart => exact ⟨rfl, rfl⟩
  case round =>
    obtain ⟨rfl, rfl⟩ := hrel
    go_wp2_with fail
    go_ret
    exact ⟨rfl, rfl⟩
theorem markInt64S_any (base : Nat) (A : Option Addr) (n c : Nat) (k0 : Int) (f : Nat → Value) (w : World) (hn : n ≤ 1048576) (hk0 : 0 ≤ k0) (hk1 : k0 ≤ 1000000000) (ho : Own w base 2 1 A n f) (hc : A = none → c = 0) :
    Calls Tryd.prog 15 #[.slice A n c, .int .i64 k0] w fun e w' => e = .returned (.int .i64 (k0 + (n : Int))) ∧ w.grownBy w' (blockOf A) ∧ Own w' base 2 1 A n (mk k0 (n * 1) f) := by
  rcases ho with ⟨rfl, rfl⟩ | ⟨B, m, h, rfl, hb, hk, hm, hf⟩
  · obtain rfl := hc rfl
    refine (markInt64S_nil k0 w).mono ?_
    rintro e w' ⟨rfl, rfl⟩
    exact ⟨ret_int (by omega), World.grownBy.refl _ _, .inl ⟨rfl, rfl⟩⟩
  · refine (markInt64S_blk B n c m k0 h w hn hk0 hk1 hm hk).mono ?_
    rintro e w' ⟨rfl, hg, hk'⟩
    exact ⟨rfl, hg, .inr ⟨B, m, _, rfl, hb, hk', hm, fun j hj => by unfold mk; rw [if_pos hj, if_pos hj]⟩⟩
set_option maxHeartbeats 800000 in
theorem heldInt64S_any (A : Option Addr) (n c : Nat) (k0 : Int) (f : Nat → Value) (w : World) (hn : n ≤ 1048576) (hk0 : 0 ≤ k0) (hk1 : k0 ≤ 1000000000) (hs : Sl w A (n * 1) (mk k0 (n * 1) f)) :
    Calls Tryd.prog 16 #[.slice A n c, .int .i64 k0] w fun e w' => e = .returned (.int .i64 (k0 + (n : Int))) ∧ Below w.heap.size w w' := by
  have hn' : (n : Int) ≤ 1048576 := by omega
  go_enter Tryd.func16, Tryd.ntmps16
  go_wp2_with fail
  go_loopw [1, 5] (fun t i wr => ∃ k : Nat, k ≤ n ∧ i = .int .i64 k ∧ t = .int .i64 (k0 + (k : Int)) ∧ Below w.heap.size w wr) (fun _ i _ => n - (intOf i).toNat)
  case atStart => exact ⟨0, Nat.zero_le _, rfl, ret_num (by omega), Below.refl _ _⟩
  case round =>
    obtain ⟨k, hk, rfl, rfl, hbl⟩ := hrel
    by_cases hlt : k < n
    · obtain ⟨b, off, rfl, hb, hc⟩ := hs (by omega)
      have d0 : wr.cell? ⟨b, off + k, none⟩ = some (.int .i64 (k0 + (k : Int))) := by rw [hbl.cell (by exact hb), hc _ (by omega)]; exact mk_at (by omega) rfl
      have hbr : b < wr.heap.size := by have := hbl.size; omega
      clear hc
      go_wp2_with fail
      go_roundw
      case rel => exact ⟨k + 1, by omega, by go_num, ret_num (by omega), hbl⟩
      case measure => simp [intOf]; omega
    · go_wp2_with fail
      go_ret
      have : k = n := by omega
      subst this
      exact ⟨rfl, hbl⟩
end Go.Proofs.YthjllledhcfnhaaDoor
