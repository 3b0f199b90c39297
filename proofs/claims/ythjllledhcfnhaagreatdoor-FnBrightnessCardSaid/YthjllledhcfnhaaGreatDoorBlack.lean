/- BlackAt. Conditions: the slices read as told; the variable sines holds its table. -/
import Derived.Test.YthjllledhcfnhaaGreatDoorBrightAt
namespace Go.Ks
/-- the levels of the first k projectors that reach a direction -/
def blkTo (l : Nat → ProjectorD) (b : Nat → Int) (az alt : Int) : Nat → Int
  | 0 => 0
  | k + 1 => blkTo l b az alt k + if 0 < rawP (l k) az alt then b k else 0
theorem blk_yes {l : Nat → ProjectorD} {b : Nat → Int} {az alt : Int} {k : Nat} (h : 0 < rawP (l k) az alt) : blkTo l b az alt (k + 1) = blkTo l b az alt k + b k := by rw [blkTo, if_pos h]
theorem blk_no {l : Nat → ProjectorD} {b : Nat → Int} {az alt : Int} {k : Nat} (h : ¬ 0 < rawP (l k) az alt) : blkTo l b az alt (k + 1) = blkTo l b az alt k := by rw [blkTo, if_neg h, Int.add_zero]
theorem blk_bd {l : Nat → ProjectorD} {b : Nat → Int} (az alt : Int) {n : Nat} (hb : ∀ k, k < n → 0 ≤ b k ∧ b k ≤ 1000) : ∀ k, k ≤ n → 0 ≤ blkTo l b az alt k ∧ blkTo l b az alt k ≤ 1000 * (k : Int)
  | 0, _ => by simp [blkTo]
  | k + 1, hk => by
    have ih := blk_bd (l := l) az alt hb k (by omega)
    have h := hb k (by omega)
    unfold blkTo
    split <;> omega
/-- levels -/
def LevsTo (b : Nat → Int) (k : Nat) : Prop := ∀ j, j < k → inB (b j) 0 1000 = true
open Classical in
noncomputable def blacksB (n m : Nat) (b : Nat → Int) : Bool := decide (m = n ∧ LevsTo b m)
theorem blacks_yes {n m : Nat} {b : Nat → Int} (h : m = n) (h' : LevsTo b m) : blacksB n m b = true := by simp [blacksB, h]; rw [h] at h'; exact h'
theorem blacks_no {n m : Nat} {b : Nat → Int} (h : ¬ (m = n ∧ LevsTo b m)) : blacksB n m b = false := by simp only [blacksB, decide_eq_false_iff_not]; exact h
theorem blacks_of {n m : Nat} {b : Nat → Int} (h : blacksB n m b = true) : m = n ∧ LevsTo b m := by simpa only [blacksB, decide_eq_true_eq] using h
end Go.Ks
namespace Go.Proofs.YthjllledhcfnhaaGreatDoor
open Go.RowKit Go.Lib Go.Ks
theorem areBlacks1_eq (x : Int) (w : World) :
    Calls Tryz.prog 89 #[.int .i64 x] w fun e w' => e = .returned (.bool (!inB x 0 1000)) ∧ w = w' := by
  go_enter Tryz.func89, Tryz.ntmps89
  go_wp2_with fail
  refine (isLevel_eq _ _).mono ?_
  rintro e w1 ⟨rfl, rfl⟩
  go_wp2_with fail
  go_ret
  exact ⟨rfl, rfl⟩
set_option maxHeartbeats 1000000 in
theorem indexLev_any (A2 : Option Addr) (m c2 : Nat) (b : Nat → Int) (w : World) (hm : m ≤ 1048576) (hs : Sl w A2 (m * 1) (IntC b)) :
    Calls Tryz.prog 116 #[.slice A2 m c2, .func (.func 89) #[] #[]] w fun e w' => (∃ x : Int, e = .returned (.int .i64 x) ∧ (0 ≤ x ↔ ¬ LevsTo b m)) ∧ Below w.heap.size w w' := by
  have hm3 : (m : Int) ≤ 1048576 := by omega
  go_enter Tryz.func116, Tryz.ntmps116
  go_wp2_with fail
  go_loopw [8, 5] (fun i _ wr => ∃ k : Nat, k ≤ m ∧ i = .int .i64 k ∧ Below w.heap.size w wr ∧ LevsTo b k) (fun i _ _ => m - (intOf i).toNat)
  case atStart => exact ⟨0, Nat.zero_le _, rfl, Below.refl _ _, fun j hj => absurd hj (by omega)⟩
  case round =>
    obtain ⟨k, hk, rfl, hbl, hall⟩ := hrel
    have HALL := Lib.hid hall
    clear hall
    by_cases hlt : k < m
    · obtain ⟨bb, off, rfl, hb, hc⟩ := (hs.below hbl) (by omega)
      have d0 := hc k (by omega)
      unfold IntC at d0
      clear hc
      rcases bool_cases (inB (b k) 0 1000) with q | q
      · have E := Lib.hid (show ¬ LevsTo b m from fun h => by rw [h k hlt] at q; cases q)
        go_wp2_with (go_at_call 89; refine (areBlacks1_eq _ _).mono ?_; rintro e w1 ⟨rfl, rfl⟩)
        go_ret
        exact ⟨⟨(k : Int), rfl, fun _ => E.out, fun _ => by omega⟩, hbl⟩
      · have hok : LevsTo b (k + 1) := fun j hj => by
          rcases Nat.lt_or_ge j k with e | e
          · exact HALL.out j e
          · rw [show j = k by omega]; exact q
        have HOK := Lib.hid hok
        clear hok
        go_wp2_with (go_at_call 89; refine (areBlacks1_eq _ _).mono ?_; rintro e w1 ⟨rfl, rfl⟩)
        go_roundw
        case rel => exact ⟨k + 1, by omega, by go_num, hbl, HOK.out⟩
        case measure => simp [intOf]; omega
    · obtain rfl : k = m := by omega
      go_wp2_with fail
      go_ret
      exact ⟨⟨-1, rfl, fun h => by omega, fun h => absurd HALL.out h⟩, hbl⟩
theorem containsLev_any (A2 : Option Addr) (m c2 : Nat) (b : Nat → Int) (w : World) (hm : m ≤ 1048576) (hs : Sl w A2 (m * 1) (IntC b)) :
    Calls Tryz.prog 88 #[.slice A2 m c2, .func (.func 89) #[] #[]] w fun e w' => (∃ x : Bool, e = .returned (.bool x) ∧ (x = true ↔ ¬ LevsTo b m)) ∧ Below w.heap.size w w' := by
  go_enter Tryz.func88, Tryz.ntmps88
  go_wp2_with fail
  refine (indexLev_any _ m _ b _ hm hs).mono ?_
  rintro e w1 ⟨⟨x, rfl, hx⟩, hb1⟩
  have HX := Lib.hid hx
  clear hx
  go_wp2_with fail
  go_ret
  exact ⟨⟨_, rfl, by rw [← HX.out]; simp⟩, hb1⟩
theorem areBlacks_any (A : Option Addr) (n c : Nat) (A2 : Option Addr) (m c2 : Nat) (b : Nat → Int) (w : World) (hn : n ≤ 1048576) (hm : m ≤ 1048576) (hs : Sl w A2 (m * 1) (IntC b)) :
    Calls Tryz.prog 53 #[.slice A n c, .slice A2 m c2] w fun e w' => e = .returned (.bool (blacksB n m b)) ∧ Below w.heap.size w w' := by
  have hn3 : (n : Int) ≤ 1048576 := by omega
  have hm3 : (m : Int) ≤ 1048576 := by omega
  by_cases e : m = n
  · subst e
    go_enter Tryz.func53, Tryz.ntmps53
    go_wp2_with fail
    refine (containsLev_any _ m _ b _ hm hs).mono ?_
    rintro e w1 ⟨⟨x, rfl, hx⟩, hb1⟩
    have E : (!x) = blacksB m m b := by
      cases x
      · exact (blacks_yes rfl (Classical.byContradiction fun h => by have := hx.2 h; cases this)).symm
      · exact (blacks_no (fun h => (hx.1 rfl) h.2)).symm
    have EE := Lib.hid E
    clear E hx
    go_wp2_with fail
    go_ret
    exact ⟨ret_bool EE.out, hb1⟩
  · have E := Lib.hid (blacks_no (n := n) (m := m) (b := b) (fun h => e h.1))
    have e2 : ¬ (m : Int) = (n : Int) := by omega
    go_enter Tryz.func53, Tryz.ntmps53
    go_wp2_with fail
    go_ret
    exact ⟨ret_bool E.out.symm, Below.refl _ _⟩
set_option maxRecDepth 100000 in
set_option maxHeartbeats 4000000 in
theorem blackAt_any (A : Option Addr) (n c : Nat) (A2 : Option Addr) (c2 : Nat) (l : Nat → ProjectorD) (b : Nat → Int) (az alt : Int) (w : World) (hn : n ≤ 6) (hs : Sl w A (n * 5) (ProjectorC l)) (hsb : Sl w A2 (n * 1) (IntC b)) (hp : ∀ k, k < n → projB (l k) = true) (hlv : ∀ k, k < n → 0 ≤ b k ∧ b k ≤ 1000) (ha : I64 az) (hl : I64 alt) (hT : Tab w) :
    Calls Tryz.prog 54 #[.slice A n c, .slice A2 n c2, .int .i64 az, .int .i64 alt] w fun e w' => e = .returned (.int .i64 (blkTo l b az alt n)) ∧ Below w.heap.size w w' := by
  have hn6 : (n : Int) ≤ 6 := by omega
  have HA := Lib.hid ha
  have HL := Lib.hid hl
  have HT := Lib.hid hT
  clear ha hl hT
  go_enter Tryz.func54, Tryz.ntmps54
  go_wp2_with fail
  go_loopw [9, 14] (fun s i wr => ∃ k : Nat, k ≤ n ∧ i = .int .i64 k ∧ s = .int .i64 (blkTo l b az alt k) ∧ Below w.heap.size w wr) (fun _ i _ => n - (intOf i).toNat)
  case atStart => exact ⟨0, Nat.zero_le _, rfl, rfl, Below.refl _ _⟩
  case round =>
    obtain ⟨k, hk, rfl, rfl, hbl⟩ := hrel
    obtain ⟨cb0, cb1⟩ := blk_bd (l := l) az alt hlv k hk
    by_cases hlt : k < n
    · obtain ⟨pb, off, rfl, hc⟩ := ProjectorAt.of_sl hs (by omega)
      obtain ⟨hbr, d0, d1, d2, d3, d4⟩ := (hc k hlt).below hbl
      have hbr2 : pb < wr.heap.size + 1 := by omega
      have hal : Below w.heap.size w (wr.alloc (.cells #[.string (l k).f0, .int .i64 (l k).f1, .int .i64 (l k).f2, .int .i64 (l k).f3, .int .i64 (l k).f4] 125)) := hbl.alloc hbl.size _
      have hsz : w.heap.size ≤ (wr.alloc (.cells #[.string (l k).f0, .int .i64 (l k).f1, .int .i64 (l k).f2, .int .i64 (l k).f3, .int .i64 (l k).f4] 125)).heap.size := hal.size
      have QK := Lib.hid (hp k hlt)
      have TK := Lib.hid (HT.out.below hal)
      obtain ⟨bb, off2, rfl, hbb, hcc⟩ := (hsb.below hbl) (by omega)
      have s0 := hcc k (by omega)
      unfold IntC at s0
      have hbb2 : bb < wr.heap.size + 1 := by omega
      clear hc hcc
      obtain ⟨l0, l1⟩ := hlv k hlt
      have HY1 := Lib.hid (blk_yes (l := l) (b := b) (az := az) (alt := alt) (k := k))
      have HN1 := Lib.hid (blk_no (l := l) (b := b) (az := az) (alt := alt) (k := k))
      by_cases q : 0 < rawP (l k) az alt
      · have E := Lib.hid (HY1.out (by omega))
        have q' := decide_eq_true q
        go_wp2_with fail
        refine (rawWeight_any (l k) az alt _ QK.out HA.out HL.out TK.out).mono ?_
        rintro e w5 ⟨rfl, hb5⟩
        have hb3 := hal.trans (hb5.mono hsz)
        have hq : bb < (wr.alloc (.cells #[.string (l k).f0, .int .i64 (l k).f1, .int .i64 (l k).f2, .int .i64 (l k).f3, .int .i64 (l k).f4] 125)).heap.size := Nat.lt_of_lt_of_le hbb ((Below.refl wr.heap.size wr).alloc (Nat.le_refl _) _).size
        have s4 : (wr.alloc (.cells #[.string (l k).f0, .int .i64 (l k).f1, .int .i64 (l k).f2, .int .i64 (l k).f3, .int .i64 (l k).f4] 125)).cell? ⟨bb, off2 + k, none⟩ = some (.int .i64 (b k)) := (((Below.refl wr.heap.size wr).alloc (Nat.le_refl _) _).cell (p := ⟨bb, off2 + k, none⟩) hbb).trans s0
        have s5 := (hb5.cell (p := ⟨bb, off2 + k, none⟩) hq).trans s4
        have hbb5 : bb < w5.heap.size := Nat.lt_of_lt_of_le hq hb5.size
        go_wp2_with fail
        go_roundw
        case rel => exact ⟨k + 1, by omega, by go_num, ret_num E.out.symm, hb3⟩
        case measure => simp [intOf]; omega
      · have E := Lib.hid (HN1.out (by omega))
        have q' := decide_eq_false q
        go_wp2_with fail
        refine (rawWeight_any (l k) az alt _ QK.out HA.out HL.out TK.out).mono ?_
        rintro e w5 ⟨rfl, hb5⟩
        have hb3 := hal.trans (hb5.mono hsz)
        have hq : bb < (wr.alloc (.cells #[.string (l k).f0, .int .i64 (l k).f1, .int .i64 (l k).f2, .int .i64 (l k).f3, .int .i64 (l k).f4] 125)).heap.size := Nat.lt_of_lt_of_le hbb ((Below.refl wr.heap.size wr).alloc (Nat.le_refl _) _).size
        have s4 : (wr.alloc (.cells #[.string (l k).f0, .int .i64 (l k).f1, .int .i64 (l k).f2, .int .i64 (l k).f3, .int .i64 (l k).f4] 125)).cell? ⟨bb, off2 + k, none⟩ = some (.int .i64 (b k)) := (((Below.refl wr.heap.size wr).alloc (Nat.le_refl _) _).cell (p := ⟨bb, off2 + k, none⟩) hbb).trans s0
        have s5 := (hb5.cell (p := ⟨bb, off2 + k, none⟩) hq).trans s4
        have hbb5 : bb < w5.heap.size := Nat.lt_of_lt_of_le hq hb5.size
        go_wp2_with fail
        go_roundw
        case rel => exact ⟨k + 1, by omega, by go_num, ret_num E.out.symm, hb3⟩
        case measure => simp [intOf]; omega
    · obtain rfl : k = n := by omega
      go_wp2_with fail
      go_ret
      exact ⟨rfl, hbl⟩
end Go.Proofs.YthjllledhcfnhaaGreatDoor
