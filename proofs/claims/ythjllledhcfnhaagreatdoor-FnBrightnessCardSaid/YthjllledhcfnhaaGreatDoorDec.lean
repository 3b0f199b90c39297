/- The decimal text of a number, by the reference. Condition: a number of 64 bits. -/
import Derived.Test.YthjllledhcfnhaaGreatDoorSmallEq
import Derived.Test.YthjllledhcfnhaaGreatDoorAppendStep
import Derived.Test.YthjllledhcfnhaaGreatDoorAppend
import Derived.Laws.BytesArg
import Derived.Lib.ItoaNum
import Derived.Lib.ItoaMem
namespace Go.Ks
open Go.RowKit Go.Lib
/-- the digits, the least first -/
def dgs (u : Nat) : List Int := if _h : u = 0 then [] else (48 + ((u % 10 : Nat) : Int)) :: dgs (u / 10)
termination_by u
theorem dgs_zero : dgs 0 = [] := by unfold dgs; rw [dif_pos rfl]
theorem dgs_pos {u : Nat} (h : 0 < u) : dgs u = (48 + ((u % 10 : Nat) : Int)) :: dgs (u / 10) := by rw [dgs.eq_1 u, dif_neg (by omega)]
theorem dgs_len : ∀ k u, u < 10 ^ k → (dgs u).length ≤ k
  | 0, u, h => by
    obtain rfl : u = 0 := by simpa using h
    simp [dgs_zero]
  | k + 1, u, h => by
    rcases Nat.eq_zero_or_pos u with rfl | h0
    · simp [dgs_zero]
    · rw [dgs_pos h0, List.length_cons]
      have := dgs_len k (u / 10) (by rw [Nat.pow_succ] at h; omega)
      omega
theorem dgs_dec : ∀ u, 0 < u → (dgs u).reverse.map (fun z : Int => UInt8.ofNat z.toNat) = Lib.decDigits u := by
  intro u
  induction u using Nat.strongRecOn with
  | _ u ih =>
    intro h0
    have e : (48 + ((u % 10 : Nat) : Int)).toNat = 48 + u % 10 := by omega
    rw [dgs_pos h0, List.reverse_cons, List.map_append, Lib.decDigits]
    split
    · rename_i h
      rw [show u / 10 = 0 by omega, dgs_zero]
      simp only [List.reverse_nil, List.map_nil, List.nil_append, List.map_cons, e]
      rw [Nat.mod_eq_of_lt h]
    · rw [ih (u / 10) (by omega) (by omega)]
      simp only [List.map_cons, List.map_nil, e]
/-- the decimal text of a number -/
def decB (n : Int) : ByteArray := ⟨(Lib.itoa n).toArray⟩
theorem decB_pos {u : Nat} (h : 0 < u) : strOfNums (dgs u).reverse = decB (u : Int) := by
  unfold strOfNums decB
  rw [dgs_dec u h, Lib.itoa_nonneg]
theorem decB_neg {u : Nat} (h : 0 < u) : strOfNums (dgs u ++ [45]).reverse = decB (-(u : Int)) := by
  unfold strOfNums decB
  rw [List.reverse_append, List.map_append, dgs_dec u h, Lib.itoa_neg u h]
  rfl
theorem decB_zero : decB 0 = ⟨#[48]⟩ := by
  unfold decB
  have := Lib.itoa_nonneg 0
  rw [show ((0 : Nat) : Int) = 0 from rfl] at this
  rw [this, Lib.decDigits, dif_pos (by omega)]
  rfl
/-- the cells of bytes -/
def byC (xs : List Int) (j : Nat) : Value := .int .u8 (xs.getD j 0)
theorem byC_one (xs : List Int) (j : Nat) : (byC xs j).oneCell' = true := rfl
theorem byC_app {xs : List Int} {z : Int} {j : Nat} (h : j < xs.length) : byC xs j = byC (xs ++ [z]) j := by
  unfold byC
  rw [List.getD_eq_getElem?_getD, List.getD_eq_getElem?_getD, List.getElem?_append_left h]
theorem byC_new (xs : List Int) (z : Int) : byC (xs ++ [z]) xs.length = .int .u8 z := by
  unfold byC
  rw [List.getD_eq_getElem?_getD, List.getElem?_append_right (Nat.le_refl _), Nat.sub_self]
  rfl
theorem byC_rev {xs : List Int} {k : Nat} (h : k < xs.length) : byC xs (xs.length - 1 - k) = byC xs.reverse k := by
  unfold byC
  rw [List.getD_eq_getElem?_getD, List.getD_eq_getElem?_getD, List.getElem?_reverse h]
/-- one cell more -/
theorem by_news {w : World} {B : Nat} {z : Int} {T : TypeId} {f : Nat → Value} {n : Nat} (hB : Blk w B T #[.int .u8 z]) (h : f n = .int .u8 z) : ∀ j, j < 1 → w.cell? ⟨B, j, none⟩ = some (f (n * 1 + j)) := fun j hj => by
  obtain rfl : j = 0 := by omega
  rw [Nat.mul_one, Nat.add_zero, h]
  exact hB.cell 0
theorem by_one {f : Nat → Value} {n : Nat} {z : Int} (h : f n = .int .u8 z) : ∀ j, j < 1 → (f (n * 1 + j)).oneCell' = true := fun j hj => by
  obtain rfl : j = 0 := by omega
  rw [Nat.mul_one, Nat.add_zero, h]
  rfl
end Go.Ks
namespace Go.Proofs.YthjllledhcfnhaaGreatDoor
open Go.RowKit Go.Lib Go.Ks
theorem Tryz.infoU8 : (Tryz.prog.info? 5).map (fun i => (i.zero, i.size, i.bytes)) = some (some (.int .u8 0), 1, 1) := by kernel_rfl
theorem convBy (W : World) (b n c : Nat) (xs : List Int) (hn : xs.length = n) (h : ∀ i, i < n → W.cell? ⟨b, 0 + i, none⟩ = some (byC xs i)) : (convert 22 9 (.slice (some ⟨b, 0, none⟩) n c)).run Tryz.prog W = .ok (.string (strOfNums xs)) W :=
  run_convert_bytes_arg (P := Tryz.prog) W 22 5 (by kernel_rfl) (by kernel_rfl) b 0 n c xs hn h 9 (by kernel_rfl)
set_option maxRecDepth 100000 in
set_option maxHeartbeats 2000000 in
theorem l01Dec_pos (u0 : Nat) (h0 : 0 < u0) (hu : (u0 : Int) ≤ 9223372036854775807) (w : World) :
    Calls Tryz.prog 115 #[.int .i64 ((u0 : Int))] w fun e w' => e = .returned (.string (decB ((u0 : Int)))) ∧ Below w.heap.size w w' := by
  have hL := dgs_len 20 u0 (by omega)
  obtain ⟨i0, hi, hz0, hz1, hz2⟩ := info_parts Tryz.infoU8
  have E := Lib.hid (decB_pos h0)
  have hne0 : ((u0 : Int) == 0) = false := by simp; omega
  go_enter Tryz.func115, Tryz.ntmps115
  go_wp2_with fail
  clear hne0
  go_loopw [3, 4] (fun v a wr => ∃ (u : Nat) (ds : List Int), u ≤ u0 ∧ a = .int .i64 ((u : Int)) ∧ ds ++ dgs u = dgs u0 ∧ Row wr w.heap.size 5 1 v ds.length (byC ds) ∧ Below w.heap.size w wr) (fun _ a _ => (intOf a).natAbs)
  case atStart => exact ⟨u0, [], Nat.le_refl _, rfl, rfl, Row.empty _ _ _ _ (Nat.le_refl _), (Below.refl _ _).alloc (Nat.le_refl _) _⟩
  case round =>
    obtain ⟨u, ds, hu1, rfl, hds, hrow, hbl⟩ := hrel
    have dl : ds.length ≤ 20 := by have := congrArg List.length hds; rw [List.length_append] at this; omega
    have HDS := Lib.hid hds
    clear hds
    have sz := hbl.size
    by_cases hp : 0 < u
    · have hne : ((u : Int) == 0) = false := by simp; omega
      have hne2 : ((u : Int) != 0) = true := by simp; omega
      obtain ⟨d, hd⟩ : ∃ d : Int, d = ((u % 10 : Nat) : Int) := ⟨_, rfl⟩
      obtain ⟨q, hq⟩ : ∃ q : Nat, q = u / 10 := ⟨_, rfl⟩
      have hd0 : 0 ≤ d := by omega
      have hd1 : d ≤ 9 := by omega
      have hqu : q < u := by omega
      have hm : Int.tmod ((u : Int)) 10 = d := by rw [hd]; rfl
      have hq2 : Int.tdiv ((u : Int)) 10 = (q : Int) := by rw [hq]; rfl
      have HDP := Lib.hid (show dgs u = (48 + d) :: dgs q by rw [hd, hq]; exact dgs_pos hp)
      clear hd hq
      have HAPP := Lib.hid (byC_new ds (48 + d))
      have hcong : Row wr w.heap.size 5 1 _ ds.length (byC (ds ++ [48 + d])) := hrow.congr (fun j hj => byC_app (by omega))
      go_wp2_with (at_builtin; refine wpList_append_row rfl _ _ 22 rfl w.heap.size 5 i0 _ 1 1 Tryz.underlying22 hi hz0 hz1 hz2 rfl (by decide) _ ds.length (byC (ds ++ [48 + d])) rfl (hcong.alloc _) wr.heap.size 1 rfl (by_news (Blk.new _ _ _) HAPP.out) (by_one HAPP.out) (by omega) (by omega) (by simp; omega) ?_)
      intro v6 w6 hrow6 hg6
      have hb6 := Row.after (hbl.alloc sz _) (Nat.le_refl _) (by simp; omega) (hcong.alloc _) hg6 hrow6
      clear hg6
      go_wp2_with fail
      go_roundw
      case rel => exact ⟨q, ds ++ [48 + d], by omega, rfl, by rw [List.append_assoc]; show ds ++ (_ :: dgs q) = _; rw [← HDP.out]; exact HDS.out, by rw [List.length_append]; exact hrow6, hb6⟩
      case measure => simp [intOf]; omega
    · have hu0 : u = 0 := by omega
      have HD := Lib.hid (show ds = dgs u0 by have := HDS.out; rw [hu0, dgs_zero, List.append_nil] at this; exact this)
      clear HDS
      have hzz : ((u : Int) == 0) = true := by simp; omega
      have hzn : ((u : Int) != 0) = false := by simp; omega
      clear hu0 hp hu1
      have hneg : ¬ (u0 : Int) < 0 := by omega
      obtain ⟨xs, hxs⟩ : ∃ xs, xs = ds := ⟨_, rfl⟩
      have hxl : xs.length = ds.length := by rw [hxs]
      rw [← hxs] at hrow
      have HX := Lib.hid (show xs = dgs u0 by rw [hxs, HD.out])
      clear hxs
      obtain ⟨wb, rfl⟩ : ∃ q : World, q = wr := ⟨_, rfl⟩
      have hbb := hbl
      have hrx := hrow
      clear hrow hbl
      obtain ⟨A6, c6, rfl, _, hox, _⟩ := hrx.own
      have hsx := hox.sl
      have sb := hbb.size
      have xl : xs.length ≤ 21 := by omega
      have xl' : (xs.length : Int) ≤ 21 := by omega
      clear hrx hox HD hxl
      go_wp2_with fail
      clear hzz hzn
      generalize hW : World.alloc wb _ = w7
      have r7 : Row w7 wb.heap.size 5 1 (.slice (some ⟨wb.heap.size, 0, none⟩) 0 0) 0 (byC xs.reverse) := by rw [← hW]; exact Row.empty _ _ _ _ (Nat.le_refl _)
      have h7 : Below wb.heap.size wb w7 := by rw [← hW]; exact (Below.refl _ _).alloc (Nat.le_refl _) _
      clear hW
      go_loopw [6, 7] (fun v a wr => ∃ k : Nat, k ≤ xs.length ∧ a = .int .i64 ((xs.length : Int) - 1 - (k : Int)) ∧ Row wr wb.heap.size 5 1 v k (byC xs.reverse) ∧ Below wb.heap.size wb wr) (fun _ a _ => (intOf a + 1).toNat)
      case atStart => exact ⟨0, Nat.zero_le _, ret_num (by omega), r7, h7⟩
      case round =>
        obtain ⟨k, hk, rfl, hrow, hbl⟩ := hrel
        have sz := hbl.size
        by_cases hlt : k < xs.length
        · have hlt' : 0 ≤ (xs.length : Int) - 1 - (k : Int) := by omega
          obtain ⟨b, off, hA, hb, hc⟩ := hsx (by omega)
          subst hA
          obtain ⟨j, hj⟩ : ∃ j : Nat, j = xs.length - 1 - k := ⟨_, rfl⟩
          have hjj : (xs.length : Int) - 1 - (k : Int) = (j : Int) := by omega
          obtain ⟨z, hz⟩ : ∃ z, z = xs.getD j 0 := ⟨_, rfl⟩
          have c0 : wr.cell? ⟨b, off + j, none⟩ = some (.int .u8 z) := by rw [hbl.cell (by exact hb), hc _ (by omega), hz]; rfl
          have hbr : b < wr.heap.size := by omega
          have hjl : (j : Int) < (xs.length : Int) := by omega
          have HAPP := Lib.hid (show byC xs.reverse k = .int .u8 z by rw [← byC_rev hlt, ← hj, hz]; rfl)
          have HJ := Lib.hid hjj
          rw [hjj]
          clear hc hjj hj hlt' hz
          go_wp2_with (at_builtin; refine wpList_append_row rfl _ _ 22 rfl wb.heap.size 5 i0 _ 1 1 Tryz.underlying22 hi hz0 hz1 hz2 rfl (by decide) _ k (byC xs.reverse) rfl (hrow.alloc _) wr.heap.size 1 rfl (by_news (Blk.new _ _ _) HAPP.out) (by_one HAPP.out) (by omega) (by omega) (by simp; omega) ?_)
          intro v6 w6 hrow6 hg6
          have hb6 := Row.after (hbl.alloc sz _) (Nat.le_refl _) (by simp; omega) (hrow.alloc _) hg6 hrow6
          clear hg6
          go_wp2_with fail
          go_roundw
          case rel => exact ⟨k + 1, by omega, ret_num (by have := HJ.out; omega), hrow6, hb6⟩
          case measure => have := HJ.out; simp [intOf] <;> omega
        · obtain rfl : k = xs.length := by omega
          obtain ⟨A8, c8, rfl, _, ho8, _⟩ := hrow.own
          rcases ho8 with ⟨rfl, h8⟩ | ⟨B8, m8, f8, rfl, _, hk8, hm8, hf8⟩
          · have := HX.out; rw [this] at h8; rw [dgs_pos h0] at h8; simp at h8
          have hcv := convBy wr B8 xs.length c8 xs.reverse (List.length_reverse) (fun i hi => by rw [Nat.zero_add, hk8.cell, arr_get _ _ _ (by omega), hf8 _ (by omega)])
          have ER := Lib.hid (show strOfNums xs.reverse = decB ((u0 : Int)) by rw [HX.out]; exact E.out)
          have hbf := hbb.trans (hbl.mono sb)
          clear hk8 hm8 hf8 hrow
          go_wp2_with fail
          go_ret
          exact ⟨by rw [ER.out] <;> rfl, hbf⟩
set_option maxRecDepth 100000 in
set_option maxHeartbeats 2000000 in
theorem l01Dec_neg (u0 : Nat) (h0 : 0 < u0) (hu : (u0 : Int) ≤ 9223372036854775808) (w : World) :
    Calls Tryz.prog 115 #[.int .i64 (-(u0 : Int))] w fun e w' => e = .returned (.string (decB (-(u0 : Int)))) ∧ Below w.heap.size w w' := by
  have hL := dgs_len 20 u0 (by omega)
  obtain ⟨i0, hi, hz0, hz1, hz2⟩ := info_parts Tryz.infoU8
  have E := Lib.hid (decB_neg h0)
  have hne0 : (-(u0 : Int) == 0) = false := by simp; omega
  go_enter Tryz.func115, Tryz.ntmps115
  go_wp2_with fail
  clear hne0
  go_loopw [3, 4] (fun v a wr => ∃ (u : Nat) (ds : List Int), u ≤ u0 ∧ a = .int .i64 (-(u : Int)) ∧ ds ++ dgs u = dgs u0 ∧ Row wr w.heap.size 5 1 v ds.length (byC ds) ∧ Below w.heap.size w wr) (fun _ a _ => (intOf a).natAbs)
  case atStart => exact ⟨u0, [], Nat.le_refl _, rfl, rfl, Row.empty _ _ _ _ (Nat.le_refl _), (Below.refl _ _).alloc (Nat.le_refl _) _⟩
  case round =>
    obtain ⟨u, ds, hu1, rfl, hds, hrow, hbl⟩ := hrel
    have dl : ds.length ≤ 20 := by have := congrArg List.length hds; rw [List.length_append] at this; omega
    have HDS := Lib.hid hds
    clear hds
    have sz := hbl.size
    by_cases hp : 0 < u
    · have hne : (-(u : Int) == 0) = false := by simp; omega
      have hne2 : (-(u : Int) != 0) = true := by simp; omega
      obtain ⟨d, hd⟩ : ∃ d : Int, d = ((u % 10 : Nat) : Int) := ⟨_, rfl⟩
      obtain ⟨q, hq⟩ : ∃ q : Nat, q = u / 10 := ⟨_, rfl⟩
      have hd0 : 0 ≤ d := by omega
      have hd1 : d ≤ 9 := by omega
      have hqu : q < u := by omega
      have hm : Int.tmod (-(u : Int)) 10 = -d := by rw [hd]; rw [Int.neg_tmod]; rfl
      have hq2 : Int.tdiv (-(u : Int)) 10 = -(q : Int) := by rw [hq]; rw [Int.neg_tdiv]; rfl
      have HDP := Lib.hid (show dgs u = (48 + d) :: dgs q by rw [hd, hq]; exact dgs_pos hp)
      clear hd hq
      have HAPP := Lib.hid (byC_new ds (48 + d))
      have hcong : Row wr w.heap.size 5 1 _ ds.length (byC (ds ++ [48 + d])) := hrow.congr (fun j hj => byC_app (by omega))
      by_cases hdp : 0 < d
      · have hdn : -d < 0 := by omega
        go_wp2_with (at_builtin; refine wpList_append_row rfl _ _ 22 rfl w.heap.size 5 i0 _ 1 1 Tryz.underlying22 hi hz0 hz1 hz2 rfl (by decide) _ ds.length (byC (ds ++ [48 + d])) rfl (hcong.alloc _) wr.heap.size 1 rfl (by_news (Blk.new _ _ _) HAPP.out) (by_one HAPP.out) (by omega) (by omega) (by simp; omega) ?_)
        intro v6 w6 hrow6 hg6
        have hb6 := Row.after (hbl.alloc sz _) (Nat.le_refl _) (by simp; omega) (hcong.alloc _) hg6 hrow6
        clear hg6
        go_wp2_with fail
        go_roundw
        case rel => exact ⟨q, ds ++ [48 + d], by omega, rfl, by rw [List.append_assoc]; show ds ++ (_ :: dgs q) = _; rw [← HDP.out]; exact HDS.out, by rw [List.length_append]; exact hrow6, hb6⟩
        case measure => simp [intOf]; omega
      · have hdn : ¬ -d < 0 := by omega
        obtain rfl : d = 0 := by omega
        go_wp2_with (at_builtin; refine wpList_append_row rfl _ _ 22 rfl w.heap.size 5 i0 _ 1 1 Tryz.underlying22 hi hz0 hz1 hz2 rfl (by decide) _ ds.length (byC (ds ++ [48 + 0])) rfl (hcong.alloc _) wr.heap.size 1 rfl (by_news (Blk.new _ _ _) HAPP.out) (by_one HAPP.out) (by omega) (by omega) (by simp; omega) ?_)
        intro v6 w6 hrow6 hg6
        have hb6 := Row.after (hbl.alloc sz _) (Nat.le_refl _) (by simp; omega) (hcong.alloc _) hg6 hrow6
        clear hg6
        go_wp2_with fail
        go_roundw
        case rel => exact ⟨q, ds ++ [48 + 0], by omega, rfl, by rw [List.append_assoc]; show ds ++ (_ :: dgs q) = _; rw [← HDP.out]; exact HDS.out, by rw [List.length_append]; exact hrow6, hb6⟩
        case measure => simp [intOf]; omega
    · have hu0 : u = 0 := by omega
      have HD := Lib.hid (show ds = dgs u0 by have := HDS.out; rw [hu0, dgs_zero, List.append_nil] at this; exact this)
      clear HDS
      have hzz : (-(u : Int) == 0) = true := by simp; omega
      have hzn : (-(u : Int) != 0) = false := by simp; omega
      clear hu0 hp hu1
      have hneg : -(u0 : Int) < 0 := by omega
      have HAPP := Lib.hid (byC_new ds 45)
      have hcong : Row wr w.heap.size 5 1 _ ds.length (byC (ds ++ [45])) := hrow.congr (fun j hj => byC_app (by omega))
      go_wp2_with (at_builtin; refine wpList_append_row rfl _ _ 22 rfl w.heap.size 5 i0 _ 1 1 Tryz.underlying22 hi hz0 hz1 hz2 rfl (by decide) _ ds.length (byC (ds ++ [45])) rfl (hcong.alloc _) wr.heap.size 1 rfl (by_news (Blk.new _ _ _) HAPP.out) (by_one HAPP.out) (by omega) (by omega) (by simp; omega) ?_)
      intro v6 w6 hrow6 hg6
      have hb6 := Row.after (hbl.alloc sz _) (Nat.le_refl _) (by simp; omega) (hcong.alloc _) hg6 hrow6
      clear hg6 HAPP hrow hcong
      obtain ⟨xs, hxs⟩ : ∃ xs, xs = ds ++ [45] := ⟨_, rfl⟩
      have hxl : xs.length = ds.length + 1 := by rw [hxs, List.length_append]; rfl
      rw [← hxs, ← hxl] at hrow6
      have HX := Lib.hid (show xs = dgs u0 ++ [45] by rw [hxs, HD.out])
      clear hxs
      obtain ⟨wb, rfl⟩ : ∃ q : World, q = w6 := ⟨_, rfl⟩
      have hbb := hb6
      have hrx := hrow6
      clear hrow6 hb6
      obtain ⟨A6, c6, rfl, _, hox, _⟩ := hrx.own
      have hsx := hox.sl
      have sb := hbb.size
      have xl : xs.length ≤ 21 := by omega
      have xl' : (xs.length : Int) ≤ 21 := by omega
      clear hrx hox HD hxl
      go_wp2_with fail
      clear hzz hzn
      generalize hW : World.alloc wb _ = w7
      have r7 : Row w7 wb.heap.size 5 1 (.slice (some ⟨wb.heap.size, 0, none⟩) 0 0) 0 (byC xs.reverse) := by rw [← hW]; exact Row.empty _ _ _ _ (Nat.le_refl _)
      have h7 : Below wb.heap.size wb w7 := by rw [← hW]; exact (Below.refl _ _).alloc (Nat.le_refl _) _
      clear hW
      go_loopw [6, 7] (fun v a wr => ∃ k : Nat, k ≤ xs.length ∧ a = .int .i64 ((xs.length : Int) - 1 - (k : Int)) ∧ Row wr wb.heap.size 5 1 v k (byC xs.reverse) ∧ Below wb.heap.size wb wr) (fun _ a _ => (intOf a + 1).toNat)
      case atStart => exact ⟨0, Nat.zero_le _, ret_num (by omega), r7, h7⟩
      case round =>
        obtain ⟨k, hk, rfl, hrow, hbl⟩ := hrel
        have sz := hbl.size
        by_cases hlt : k < xs.length
        · have hlt' : 0 ≤ (xs.length : Int) - 1 - (k : Int) := by omega
          obtain ⟨b, off, hA, hb, hc⟩ := hsx (by omega)
          subst hA
          obtain ⟨j, hj⟩ : ∃ j : Nat, j = xs.length - 1 - k := ⟨_, rfl⟩
          have hjj : (xs.length : Int) - 1 - (k : Int) = (j : Int) := by omega
          obtain ⟨z, hz⟩ : ∃ z, z = xs.getD j 0 := ⟨_, rfl⟩
          have c0 : wr.cell? ⟨b, off + j, none⟩ = some (.int .u8 z) := by rw [hbl.cell (by exact hb), hc _ (by omega), hz]; rfl
          have hbr : b < wr.heap.size := by omega
          have hjl : (j : Int) < (xs.length : Int) := by omega
          have HAPP := Lib.hid (show byC xs.reverse k = .int .u8 z by rw [← byC_rev hlt, ← hj, hz]; rfl)
          have HJ := Lib.hid hjj
          rw [hjj]
          clear hc hjj hj hlt' hz
          go_wp2_with (at_builtin; refine wpList_append_row rfl _ _ 22 rfl wb.heap.size 5 i0 _ 1 1 Tryz.underlying22 hi hz0 hz1 hz2 rfl (by decide) _ k (byC xs.reverse) rfl (hrow.alloc _) wr.heap.size 1 rfl (by_news (Blk.new _ _ _) HAPP.out) (by_one HAPP.out) (by omega) (by omega) (by simp; omega) ?_)
          intro v6 w6 hrow6 hg6
          have hb6 := Row.after (hbl.alloc sz _) (Nat.le_refl _) (by simp; omega) (hrow.alloc _) hg6 hrow6
          clear hg6
          go_wp2_with fail
          go_roundw
          case rel => exact ⟨k + 1, by omega, ret_num (by have := HJ.out; omega), hrow6, hb6⟩
          case measure => have := HJ.out; simp [intOf] <;> omega
        · obtain rfl : k = xs.length := by omega
          obtain ⟨A8, c8, rfl, _, ho8, _⟩ := hrow.own
          rcases ho8 with ⟨rfl, h8⟩ | ⟨B8, m8, f8, rfl, _, hk8, hm8, hf8⟩
          · have := HX.out; rw [this] at h8; rw [dgs_pos h0] at h8; simp at h8
          have hcv := convBy wr B8 xs.length c8 xs.reverse (List.length_reverse) (fun i hi => by rw [Nat.zero_add, hk8.cell, arr_get _ _ _ (by omega), hf8 _ (by omega)])
          have ER := Lib.hid (show strOfNums xs.reverse = decB (-(u0 : Int)) by rw [HX.out]; exact E.out)
          have hbf := hbb.trans (hbl.mono sb)
          clear hk8 hm8 hf8 hrow
          go_wp2_with fail
          go_ret
          exact ⟨by rw [ER.out] <;> rfl, hbf⟩
theorem l01Dec_any (n : Int) (h : -9223372036854775808 ≤ n ∧ n ≤ 9223372036854775807) (w : World) :
    Calls Tryz.prog 115 #[.int .i64 n] w fun e w' => e = .returned (.string (decB n)) ∧ Below w.heap.size w w' := by
  rcases Int.lt_trichotomy n 0 with h0 | rfl | h0
  · obtain ⟨u, hu⟩ := Int.eq_ofNat_of_zero_le (by omega : 0 ≤ -n)
    obtain rfl : n = -(u : Int) := by omega
    exact l01Dec_neg u (by omega) (by omega) w
  · have E := Lib.hid decB_zero
    go_enter Tryz.func115, Tryz.ntmps115
    go_wp2_with fail
    go_ret
    exact ⟨by rw [E.out] <;> rfl, Below.refl _ _⟩
  · obtain ⟨u, rfl⟩ := Int.eq_ofNat_of_zero_le (by omega : 0 ≤ n)
    exact l01Dec_pos u (by omega) (by omega) w
end Go.Proofs.YthjllledhcfnhaaGreatDoor
