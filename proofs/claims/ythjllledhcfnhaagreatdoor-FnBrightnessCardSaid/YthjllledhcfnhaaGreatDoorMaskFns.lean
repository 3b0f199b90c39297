/- MaskAt of the reference and of the program. Conditions: the slice reads as n masks, n up to 2^20. -/
import Derived.Test.YthjllledhcfnhaaGreatDoorOwn
import Derived.Test.YthjllledhcfnhaaGreatDoorSmallEq
import Derived.Test.YthjllledhcfnhaaGreatDoorMath
namespace Go.Proofs.YthjllledhcfnhaaGreatDoor
open Go.RowKit Go.Lib Go.Ks

def MaskGood (x : MaskD) : Prop := (0 ≤ x.f0 ∧ x.f0 ≤ 359999) ∧ (0 ≤ x.f1 ∧ x.f1 ≤ 359999) ∧ 0 ≤ x.f2 ∧ x.f2 ≤ x.f3 ∧ x.f3 ≤ 90000 ∧ (0 ≤ x.f4 ∧ x.f4 ≤ 1000)
def MasksOk (n : Nat) (l : Nat → MaskD) : Prop := n ≤ 8 ∧ ∀ k, k < n → MaskGood (l k)
open Classical in
noncomputable def masksOk (n : Nat) (l : Nat → MaskD) : Bool := decide (MasksOk n l)
theorem masksOk_no {n : Nat} {l : Nat → MaskD} (h : ¬ MasksOk n l) : masksOk n l = false := by simp [masksOk, h]
theorem masksOk_yes {n : Nat} {l : Nat → MaskD} (h : MasksOk n l) : masksOk n l = true := by simp [masksOk, h]
theorem masksOk_of {n : Nat} {l : Nat → MaskD} (h : masksOk n l = true) : MasksOk n l := by simpa [masksOk] using h


set_option maxHeartbeats 2000000 in
theorem validMasks_any (A : Option Addr) (n c : Nat) (l : Nat → MaskD) (w : World) (hn2 : n ≤ 1048576) (hs : Sl w A (n * 5) (MaskC l)) (_hg : ∀ k, k < n → MaskOk (l k)) :
    Calls Tryz.prog 46 #[.slice A n c] w fun e w' => e = .returned (.bool (masksOk n l)) ∧ Below w.heap.size w w' := by
  have hn3 : (n : Int) ≤ 1048576 := by omega
  by_cases h8 : 8 < n
  · go_enter Tryz.func46, Tryz.ntmps46
    go_wp2_with fail
    go_ret
    exact ⟨ret_bool (masksOk_no (fun h => by have := h.1; omega)).symm, Below.refl _ _⟩
  go_enter Tryz.func46, Tryz.ntmps46
  go_wp2_with fail
  go_loopw [10] (fun i wr => ∃ k : Nat, k ≤ n ∧ i = .int .i64 k ∧ Below w.heap.size w wr ∧ ∀ j, j < k → MaskGood (l j)) (fun i _ => n - (intOf i).toNat)
  case atStart => exact ⟨0, Nat.zero_le _, rfl, Below.refl _ _, fun j hj => absurd hj (by omega)⟩
  case round =>
    obtain ⟨k, hk, rfl, hbl, hall⟩ := hrel
    have HALL := Lib.hid hall
    clear hall
    by_cases hlt : k < n
    · obtain ⟨b, off, rfl, hb, hc⟩ := hs (by omega)
      have hbr : b < wr.heap.size := by have := hbl.size; omega
      have d0 : wr.cell? ⟨b, off + k * 5, none⟩ = some (.int .i64 (l k).f0) := by rw [hbl.cell (by exact hb), hc _ (by omega), MaskC0]
      have d1 : wr.cell? ⟨b, off + k * 5 + 1, none⟩ = some (.int .i64 (l k).f1) := by rw [hbl.cell (by exact hb), Nat.add_assoc, hc _ (by omega), MaskC1]
      have d2 : wr.cell? ⟨b, off + k * 5 + 2, none⟩ = some (.int .i64 (l k).f2) := by rw [hbl.cell (by exact hb), Nat.add_assoc, hc _ (by omega), MaskC2]
      have d3 : wr.cell? ⟨b, off + k * 5 + 3, none⟩ = some (.int .i64 (l k).f3) := by rw [hbl.cell (by exact hb), Nat.add_assoc, hc _ (by omega), MaskC3]
      have d4 : wr.cell? ⟨b, off + k * 5 + 4, none⟩ = some (.int .i64 (l k).f4) := by rw [hbl.cell (by exact hb), Nat.add_assoc, hc _ (by omega), MaskC4]
      clear hc
      have hal : Below w.heap.size w (wr.alloc (.cells #[.int .i64 (l k).f0, .int .i64 (l k).f1, .int .i64 (l k).f2, .int .i64 (l k).f3, .int .i64 (l k).f4] 122)) := hbl.alloc hbl.size _
      by_cases q0 : 0 ≤ (l k).f0 ∧ (l k).f0 ≤ 359999
      rotate_left
      · have i0 : inB (l k).f0 0 359999 = false := inB_no.2 q0
        go_wp2_with fail
        refine (within_eq _ _ _ _).mono ?_
        rintro e w' ⟨rfl, rfl⟩
        go_wp2_with fail
        go_ret
        exact ⟨ret_bool (masksOk_no (fun h => by have hg := h.2 k hlt; unfold MaskGood at hg; omega)).symm, hal⟩
      have i0 : inB (l k).f0 0 359999 = true := inB_iff.2 q0
      by_cases q1 : 0 ≤ (l k).f1 ∧ (l k).f1 ≤ 359999
      rotate_left
      · have i1 : inB (l k).f1 0 359999 = false := inB_no.2 q1
        go_wp2_with fail
        refine (within_eq _ _ _ _).mono ?_
        rintro e w' ⟨rfl, rfl⟩
        go_wp2_with fail
        refine (within_eq _ _ _ _).mono ?_
        rintro e w' ⟨rfl, rfl⟩
        go_wp2_with fail
        go_ret
        exact ⟨ret_bool (masksOk_no (fun h => by have hg := h.2 k hlt; unfold MaskGood at hg; omega)).symm, hal⟩
      have i1 : inB (l k).f1 0 359999 = true := inB_iff.2 q1
      by_cases q2 : 0 ≤ (l k).f2
      rotate_left
      · go_wp2_with fail
        refine (within_eq _ _ _ _).mono ?_
        rintro e w' ⟨rfl, rfl⟩
        go_wp2_with fail
        refine (within_eq _ _ _ _).mono ?_
        rintro e w' ⟨rfl, rfl⟩
        go_wp2_with fail
        go_ret
        exact ⟨ret_bool (masksOk_no (fun h => by have hg := h.2 k hlt; unfold MaskGood at hg; omega)).symm, hal⟩
      by_cases q3 : (l k).f2 ≤ (l k).f3
      rotate_left
      · go_wp2_with fail
        refine (within_eq _ _ _ _).mono ?_
        rintro e w' ⟨rfl, rfl⟩
        go_wp2_with fail
        refine (within_eq _ _ _ _).mono ?_
        rintro e w' ⟨rfl, rfl⟩
        go_wp2_with fail
        go_ret
        exact ⟨ret_bool (masksOk_no (fun h => by have hg := h.2 k hlt; unfold MaskGood at hg; omega)).symm, hal⟩
      by_cases q4 : (l k).f3 ≤ 90000
      rotate_left
      · go_wp2_with fail
        refine (within_eq _ _ _ _).mono ?_
        rintro e w' ⟨rfl, rfl⟩
        go_wp2_with fail
        refine (within_eq _ _ _ _).mono ?_
        rintro e w' ⟨rfl, rfl⟩
        go_wp2_with fail
        go_ret
        exact ⟨ret_bool (masksOk_no (fun h => by have hg := h.2 k hlt; unfold MaskGood at hg; omega)).symm, hal⟩
      by_cases q5 : 0 ≤ (l k).f4 ∧ (l k).f4 ≤ 1000
      rotate_left
      · have i5 : inB (l k).f4 0 1000 = false := inB_no.2 q5
        go_wp2_with fail
        refine (within_eq _ _ _ _).mono ?_
        rintro e w' ⟨rfl, rfl⟩
        go_wp2_with fail
        refine (within_eq _ _ _ _).mono ?_
        rintro e w' ⟨rfl, rfl⟩
        go_wp2_with fail
        refine (isLevel_eq _ _).mono ?_
        rintro e w' ⟨rfl, rfl⟩
        go_wp2_with fail
        go_ret
        exact ⟨ret_bool (masksOk_no (fun h => by have hg := h.2 k hlt; unfold MaskGood at hg; omega)).symm, hal⟩
      have i5 : inB (l k).f4 0 1000 = true := inB_iff.2 q5
      · go_wp2_with fail
        refine (within_eq _ _ _ _).mono ?_
        rintro e w' ⟨rfl, rfl⟩
        go_wp2_with fail
        refine (within_eq _ _ _ _).mono ?_
        rintro e w' ⟨rfl, rfl⟩
        go_wp2_with fail
        refine (isLevel_eq _ _).mono ?_
        rintro e w' ⟨rfl, rfl⟩
        go_wp2_with fail
        go_roundw
        case rel => exact ⟨k + 1, by omega, by go_num, hal, okAll HALL.out (by unfold MaskGood; omega)⟩
        case measure => simp [intOf]; omega
    · go_wp2_with fail
      go_ret
      exact ⟨ret_bool (masksOk_yes ⟨by omega, fun j hj => HALL.out j (by omega)⟩).symm, hbl⟩

end Go.Proofs.YthjllledhcfnhaaGreatDoor
namespace Go.Proofs.YthjllledhcfnhaaGreatDoor
open Go.RowKit Go.Lib Go.Ks

def InM (x : MaskD) (a h : Int) : Prop := ((x.f0 ≤ x.f1 ∧ x.f0 ≤ a ∧ a ≤ x.f1) ∨ (x.f1 < x.f0 ∧ (x.f0 ≤ a ∨ a ≤ x.f1))) ∧ x.f2 ≤ h ∧ h ≤ x.f3
open Classical in
noncomputable def maskTo (l : Nat → MaskD) (a h : Int) : Nat → Int
  | 0 => 1000
  | k + 1 => if InM (l k) a h then maskTo l a h k * (l k).f4 / 1000 else maskTo l a h k
theorem maskTo_in {l : Nat → MaskD} {a h : Int} {k : Nat} (q : InM (l k) a h) : maskTo l a h (k + 1) = maskTo l a h k * (l k).f4 / 1000 := by rw [maskTo, if_pos q]
theorem maskTo_out {l : Nat → MaskD} {a h : Int} {k : Nat} (q : ¬ InM (l k) a h) : maskTo l a h (k + 1) = maskTo l a h k := by rw [maskTo, if_neg q]
theorem maskTo_bd {n : Nat} {l : Nat → MaskD} (ok : MasksOk n l) (a h : Int) : ∀ k, k ≤ n → 0 ≤ maskTo l a h k ∧ maskTo l a h k ≤ 1000
  | 0, _ => ⟨(by unfold maskTo; omega), (by unfold maskTo; omega)⟩
  | k + 1, hk => by
    have ih := maskTo_bd ok a h k (by omega)
    by_cases q : InM (l k) a h
    · rw [maskTo_in q]
      have g := (ok.2 k (by omega)).2.2.2.2.2
      have m := mul_bd (a := maskTo l a h k) (b := (l k).f4) (m := 1000) (n := 1000) (by omega) (by omega) g.1 g.2 (by omega)
      have m0 : 0 ≤ maskTo l a h k * (l k).f4 := Int.mul_nonneg ih.1 g.1
      omega
    · rw [maskTo_out q]; exact ih

set_option maxHeartbeats 4000000 in
theorem maskAt_any (A : Option Addr) (n c : Nat) (l : Nat → MaskD) (a h : Int) (w : World) (ok : MasksOk n l) (hs : Sl w A (n * 5) (MaskC l)) :
    Calls Tryz.prog 48 #[.slice A n c, .int .i64 a, .int .i64 h] w fun e w' => e = .returned (.int .i64 (maskTo l a h n)) ∧ Below w.heap.size w w' := by
  have n8 := ok.1
  have hn3 : (n : Int) ≤ 8 := by omega
  have OK := Lib.hid ok
  clear ok
  go_enter Tryz.func48, Tryz.ntmps48
  go_wp2_with fail
  go_loopw [7, 13, 10] (fun t i _ wr => ∃ k : Nat, k ≤ n ∧ i = .int .i64 k ∧ t = .int .i64 (maskTo l a h k) ∧ Below w.heap.size w wr) (fun _ i _ _ => n - (intOf i).toNat)
  case atStart => exact ⟨0, Nat.zero_le _, rfl, rfl, Below.refl _ _⟩
  case round =>
    obtain ⟨k, hk, rfl, rfl, hbl⟩ := hrel
    by_cases hlt : k < n
    · obtain ⟨b, off, rfl, hb, hc⟩ := hs (by omega)
      have hbr : b < wr.heap.size := by have := hbl.size; omega
      have d0 : wr.cell? ⟨b, off + k * 5, none⟩ = some (.int .i64 (l k).f0) := by rw [hbl.cell (by exact hb), hc _ (by omega), MaskC0]
      have d1 : wr.cell? ⟨b, off + k * 5 + 1, none⟩ = some (.int .i64 (l k).f1) := by rw [hbl.cell (by exact hb), Nat.add_assoc, hc _ (by omega), MaskC1]
      have d2 : wr.cell? ⟨b, off + k * 5 + 2, none⟩ = some (.int .i64 (l k).f2) := by rw [hbl.cell (by exact hb), Nat.add_assoc, hc _ (by omega), MaskC2]
      have d3 : wr.cell? ⟨b, off + k * 5 + 3, none⟩ = some (.int .i64 (l k).f3) := by rw [hbl.cell (by exact hb), Nat.add_assoc, hc _ (by omega), MaskC3]
      have d4 : wr.cell? ⟨b, off + k * 5 + 4, none⟩ = some (.int .i64 (l k).f4) := by rw [hbl.cell (by exact hb), Nat.add_assoc, hc _ (by omega), MaskC4]
      clear hc
      have hal : Below w.heap.size w (wr.alloc (.cells #[.int .i64 (l k).f0, .int .i64 (l k).f1, .int .i64 (l k).f2, .int .i64 (l k).f3, .int .i64 (l k).f4] 122)) := hbl.alloc hbl.size _
      have mb := maskTo_bd OK.out a h k hk
      have mg := (OK.out.2 k hlt).2.2.2.2.2
      obtain ⟨mb1, mb2⟩ := mb
      obtain ⟨mg1, mg2⟩ := mg
      have mm := mul_bd (a := maskTo l a h k) (b := (l k).f4) (m := 1000) (n := 1000) (by omega) (by omega) mg1 mg2 (by omega)
      have m0 : 0 ≤ maskTo l a h k * (l k).f4 := Int.mul_nonneg mb1 mg1
      obtain ⟨mm1, mm2⟩ := mm
      go_wp2_with (go_at_call 60; refine (within_eq _ _ _ _).mono ?_; rintro e w' ⟨rfl, rfl⟩)
      all_goals go_roundw
      all_goals first | (simp [intOf]; omega; done) | skip
      all_goals refine ⟨k + 1, by omega, by go_num, ret_num ?_, hal⟩
      all_goals (try simp only [inB_iff, inB_no] at *)
      all_goals first | (rw [maskTo_in (by unfold InM; omega)]; done) | (rw [maskTo_out (by unfold InM; omega)]; done)
    · obtain rfl : k = n := by omega
      go_wp2_with fail
      go_ret
      exact ⟨rfl, hbl⟩
end Go.Proofs.YthjllledhcfnhaaGreatDoor
namespace Go.Proofs.YthjllledhcfnhaaGreatDoor
open Go.RowKit Go.Lib Go.Ks

noncomputable def mAt0 (n : Nat) (l : Nat → MaskD) (a h : Int) : Int := if masksOk n l = true ∧ upB a h = true then maskTo l a h n else 0
noncomputable def mAt1 (n : Nat) (l : Nat → MaskD) (a h : Int) : Int := if masksOk n l = true then (if upB a h = true then 0 else 2) else 1
theorem mAt_bad {n : Nat} {l : Nat → MaskD} {a h : Int} (q : masksOk n l = false) : mAt0 n l a h = 0 ∧ mAt1 n l a h = 1 := by simp [mAt0, mAt1, q]
theorem mAt_out {n : Nat} {l : Nat → MaskD} {a h : Int} (q : masksOk n l = true) (q' : upB a h = false) : mAt0 n l a h = 0 ∧ mAt1 n l a h = 2 := by simp [mAt0, mAt1, q, q']
theorem mAt_in {n : Nat} {l : Nat → MaskD} {a h : Int} (q : masksOk n l = true) (q' : upB a h = true) : mAt0 n l a h = maskTo l a h n ∧ mAt1 n l a h = 0 := by simp [mAt0, mAt1, q, q']

set_option maxHeartbeats 800000 in
theorem implMaskAt_any (A : Option Addr) (n c : Nat) (l : Nat → MaskD) (a h : Int) (w : World) (hn : n ≤ 1048576) (hs : Sl w A (n * 5) (MaskC l)) (hg : ∀ k, k < n → MaskOk (l k)) (_ha : -9223372036854775808 ≤ a ∧ a ≤ 9223372036854775807) (_hh : -9223372036854775808 ≤ h ∧ h ≤ 9223372036854775807) :
    Calls Tryz.prog 13 #[.slice A n c, .int .i64 a, .int .i64 h] w fun e w' => e = .returned (.tuple #[.int .i64 (mAt0 n l a h), .int .i64 (mAt1 n l a h)]) ∧ Below w.heap.size w w' := by
  cases ok : masksOk n l
  · have E := Lib.hid (mAt_bad (a := a) (h := h) ok)
    go_enter Tryz.func13, Tryz.ntmps13
    go_wp2_with fail
    refine (validMasks_any _ _ _ l _ hn hs hg).mono ?_
    rintro e w1 ⟨rfl, hb⟩
    go_wp2_with fail
    go_ret2
    exact ⟨ret_tup E.out.1.symm E.out.2.symm, hb⟩
  cases lv : upB a h
  · have E := Lib.hid (mAt_out ok lv)
    go_enter Tryz.func13, Tryz.ntmps13
    go_wp2_with fail
    refine (validMasks_any _ _ _ l _ hn hs hg).mono ?_
    rintro e w1 ⟨rfl, hb⟩
    go_wp2_with fail
    refine (isDomeUp_eq _ _ _).mono ?_
    rintro e w2 ⟨rfl, rfl⟩
    go_wp2_with fail
    go_ret2
    exact ⟨ret_tup E.out.1.symm E.out.2.symm, hb⟩
  · have E := Lib.hid (mAt_in ok lv)
    have OK := masksOk_of ok
    go_enter Tryz.func13, Tryz.ntmps13
    go_wp2_with fail
    refine (validMasks_any _ _ _ l _ hn hs hg).mono ?_
    rintro e w1 ⟨rfl, hb⟩
    go_wp2_with fail
    refine (isDomeUp_eq _ _ _).mono ?_
    rintro e w2 ⟨rfl, rfl⟩
    go_wp2_with fail
    refine (maskAt_any _ n _ l _ _ _ OK (hs.below hb)).mono ?_
    rintro e w4 ⟨rfl, hb4⟩
    have hb5 := hb.trans (hb4.mono hb.size)
    go_wp2_with fail
    go_ret2
    exact ⟨ret_tup E.out.1.symm E.out.2.symm, hb5⟩
end Go.Proofs.YthjllledhcfnhaaGreatDoor
