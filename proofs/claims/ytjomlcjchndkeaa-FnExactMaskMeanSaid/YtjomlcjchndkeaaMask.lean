/- Masks: validity and the level that they leave. Conditions: the slice reads as masks. -/
import Derived.Test.YtjomlcjchndkeaaSmallEq
import Derived.Test.YtjomlcjchndkeaaMath
namespace Go.Proofs.Ytjomlcjchndkeaa
open Go.RowKit Go.Lib Go.Ks

def MaskGood (x : MaskD) : Prop := (0 ≤ x.f0 ∧ x.f0 ≤ 359999) ∧ (0 ≤ x.f1 ∧ x.f1 ≤ 359999) ∧ 0 ≤ x.f2 ∧ x.f2 ≤ x.f3 ∧ x.f3 ≤ 90000 ∧ (0 ≤ x.f4 ∧ x.f4 ≤ 1000)
def MasksOk (n : Nat) (l : Nat → MaskD) : Prop := n ≤ 8 ∧ ∀ k, k < n → MaskGood (l k)
open Classical in
noncomputable def masksOk (n : Nat) (l : Nat → MaskD) : Bool := decide (MasksOk n l)
theorem masksOk_no {n : Nat} {l : Nat → MaskD} (h : ¬ MasksOk n l) : masksOk n l = false := by simp [masksOk, h]
theorem masksOk_yes {n : Nat} {l : Nat → MaskD} (h : MasksOk n l) : masksOk n l = true := by simp [masksOk, h]
theorem masksOk_of {n : Nat} {l : Nat → MaskD} (h : masksOk n l = true) : MasksOk n l := by simpa [masksOk] using h


set_option maxHeartbeats 2000000 in
theorem validMasks_any (A : Option Addr) (n c : Nat) (l : Nat → MaskD) (w : World) (hn2 : n ≤ 1048576) (hs : Sl w A (n * 5) (MaskC l)) (_hg : ∀ k, k < n → MaskOk (l k)) :
    Calls Try.prog 37 #[.slice A n c] w fun e w' => e = .returned (.bool (masksOk n l)) ∧ Below w.heap.size w w' := by
  have hn3 : (n : Int) ≤ 1048576 := by omega
  by_cases h8 : 8 < n
  · go_enter Try.func37, Try.ntmps37
    go_wp2_with fail
    go_ret
    exact ⟨ret_bool (masksOk_no (fun h => by have := h.1; omega)).symm, Below.refl _ _⟩
  go_enter Try.func37, Try.ntmps37
  go_wp2_with fail
  go_loopw [10] (fun i wr => ∃ k : Nat, k ≤ n ∧ i = .int .i64 k ∧ Below w.heap.size w wr ∧ ∀ j, j < k → MaskGood (l j)) (fun i _ => n - (intOf i).toNat)
  case atStart => exact ⟨0, Nat.zero_le _, rfl, Below.refl _ _, fun j hj => absurd hj (by omega)⟩
  case round =>
    obtain ⟨k, hk, rfl, hbl, hall⟩ := hrel
    have HALL := Lib.hid hall
    clear hall
    by_cases hlt : k < n
    · obtain ⟨b, off, rfl, hb, hc⟩ := hs (by omega)
      have hbr : b < wr.heap.size := by have := hbl.size; omega
      have d0 : wr.cell? ⟨b, off + k * 5, none⟩ = some (.int .i64 (l k).f0) := by rw [hbl.cell (by exact hb), hc _ (by omega), MaskC0]
      have d1 : wr.cell? ⟨b, off + k * 5 + 1, none⟩ = some (.int .i64 (l k).f1) := by rw [hbl.cell (by exact hb), Nat.add_assoc, hc _ (by omega), MaskC1]
      have d2 : wr.cell? ⟨b, off + k * 5 + 2, none⟩ = some (.int .i64 (l k).f2) := by rw [hbl.cell (by exact hb), Nat.add_assoc, hc _ (by omega), MaskC2]
      have d3 : wr.cell? ⟨b, off + k * 5 + 3, none⟩ = some (.int .i64 (l k).f3) := by rw [hbl.cell (by exact hb), Nat.add_assoc, hc _ (by omega), MaskC3]
      have d4 : wr.cell? ⟨b, off + k * 5 + 4, none⟩ = some (.int .i64 (l k).f4) := by rw [hbl.cell (by exact hb), Nat.add_assoc, hc _ (by omega), MaskC4]
      clear hc
      have hal : Below w.heap.size w (wr.alloc (.cells #[.int .i64 (l k).f0, .int .i64 (l k).f1, .int .i64 (l k).f2, .int .i64 (l k).f3, .int .i64 (l k).f4] 71)) := hbl.alloc hbl.size _
      by_cases q0 : 0 ≤ (l k).f0 ∧ (l k).f0 ≤ 359999
      rotate_left
      · have i0 : inB (l k).f0 0 359999 = false := inB_no.2 q0
        go_wp2_with fail
        refine (within_eq _ _ _ _).mono ?_
        rintro e w' ⟨rfl, rfl⟩
        go_wp2_with fail
        go_ret
        exact ⟨ret_bool (masksOk_no (fun h => by have hg := h.2 k hlt; unfold MaskGood at hg; omega)).symm, hal⟩
      have i0 : inB (l k).f0 0 359999 = true := inB_iff.2 q0
      by_cases q1 : 0 ≤ (l k).f1 ∧ (l k).f1 ≤ 359999
      rotate_left
      · have i1 : inB (l k).f1 0 359999 = false := inB_no.2 q1
        go_wp2_with fail
        refine (within_eq _ _ _ _).mono ?_
        rintro e w' ⟨rfl, rfl⟩
        go_wp2_with fail
        refine (within_eq _ _ _ _).mono ?_
        rintro e w' ⟨rfl, rfl⟩
        go_wp2_with fail
        go_ret
        exact ⟨ret_bool (masksOk_no (fun h => by have hg := h.2 k hlt; unfold MaskGood at hg; omega)).symm, hal⟩
      have i1 : inB (l k).f1 0 359999 = true := inB_iff.2 q1
      by_cases q2 : 0 ≤ (l k).f2
      rotate_left
      · go_wp2_with fail
        refine (within_eq _ _ _ _).mono ?_
        rintro e w' ⟨rfl, rfl⟩
        go_wp2_with fail
        refine (within_eq _ _ _ _).mono ?_
        rintro e w' ⟨rfl, rfl⟩
        go_wp2_with fail
        go_ret
        exact ⟨ret_bool (masksOk_no (fun h => by have hg := h.2 k hlt; unfold MaskGood at hg; omega)).symm, hal⟩
      by_cases q3 : (l k).f2 ≤ (l k).f3
      rotate_left
      · go_wp2_with fail
        refine (within_eq _ _ _ _).mono ?_
        rintro e w' ⟨rfl, rfl⟩
        go_wp2_with fail
        refine (within_eq _ _ _ _).mono ?_
        rintro e w' ⟨rfl, rfl⟩
        go_wp2_with fail
        go_ret
        exact ⟨ret_bool (masksOk_no (fun h => by have hg := h.2 k hlt; unfold MaskGood at hg; omega)).symm, hal⟩
      by_cases q4 : (l k).f3 ≤ 90000
      rotate_left
      · go_wp2_with fail
        refine (within_eq _ _ _ _).mono ?_
        rintro e w' ⟨rfl, rfl⟩
        go_wp2_with fail
        refine (within_eq _ _ _ _).mono ?_
        rintro e w' ⟨rfl, rfl⟩
        go_wp2_with fail
        go_ret
        exact ⟨ret_bool (masksOk_no (fun h => by have hg := h.2 k hlt; unfold MaskGood at hg; omega)).symm, hal⟩
      by_cases q5 : 0 ≤ (l k).f4 ∧ (l k).f4 ≤ 1000
      rotate_left
      · have i5 : inB (l k).f4 0 1000 = false := inB_no.2 q5
        go_wp2_with fail
        refine (within_eq _ _ _ _).mono ?_
        rintro e w' ⟨rfl, rfl⟩
        go_wp2_with fail
        refine (within_eq _ _ _ _).mono ?_
        rintro e w' ⟨rfl, rfl⟩
        go_wp2_with fail
        refine (isLevel_eq _ _).mono ?_
        rintro e w' ⟨rfl, rfl⟩
        go_wp2_with fail
        go_ret
        exact ⟨ret_bool (masksOk_no (fun h => by have hg := h.2 k hlt; unfold MaskGood at hg; omega)).symm, hal⟩
      have i5 : inB (l k).f4 0 1000 = true := inB_iff.2 q5
      · go_wp2_with fail
        refine (within_eq _ _ _ _).mono ?_
        rintro e w' ⟨rfl, rfl⟩
        go_wp2_with fail
        refine (within_eq _ _ _ _).mono ?_
        rintro e w' ⟨rfl, rfl⟩
        go_wp2_with fail
        refine (isLevel_eq _ _).mono ?_
        rintro e w' ⟨rfl, rfl⟩
        go_wp2_with fail
        go_roundw
        case rel => exact ⟨k + 1, by omega, by go_num, hal, okAll HALL.out (by unfold MaskGood; omega)⟩
        case measure => simp [intOf]; omega
    · go_wp2_with fail
      go_ret
      exact ⟨ret_bool (masksOk_yes ⟨by omega, fun j hj => HALL.out j (by omega)⟩).symm, hbl⟩

set_option maxHeartbeats 2000000 in
theorem l12Masks_any (A : Option Addr) (n c : Nat) (l : Nat → MaskD) (w : World) (hn2 : n ≤ 1048576) (hs : Sl w A (n * 5) (MaskC l)) (_hg : ∀ k, k < n → MaskOk (l k)) :
    Calls Try.prog 58 #[.slice A n c] w fun e w' => e = .returned (.bool (masksOk n l)) ∧ Below w.heap.size w w' := by
  have hn3 : (n : Int) ≤ 1048576 := by omega
  go_enter Try.func58, Try.ntmps58
  go_wp2_with fail
  go_loopw [3, 4] (fun i _ wr => ∃ k : Nat, k ≤ n ∧ i = .int .i64 k ∧ Below w.heap.size w wr ∧ ∀ j, j < k → MaskGood (l j)) (fun i _ _ => n - (intOf i).toNat)
  case atStart => exact ⟨0, Nat.zero_le _, rfl, Below.refl _ _, fun j hj => absurd hj (by omega)⟩
  case round =>
    obtain ⟨k, hk, rfl, hbl, hall⟩ := hrel
    have HALL := Lib.hid hall
    clear hall
    by_cases hlt : k < n
    · obtain ⟨b, off, rfl, hb, hc⟩ := hs (by omega)
      have hbr : b < wr.heap.size := by have := hbl.size; omega
      have d0 : wr.cell? ⟨b, off + k * 5, none⟩ = some (.int .i64 (l k).f0) := by rw [hbl.cell (by exact hb), hc _ (by omega), MaskC0]
      have d1 : wr.cell? ⟨b, off + k * 5 + 1, none⟩ = some (.int .i64 (l k).f1) := by rw [hbl.cell (by exact hb), Nat.add_assoc, hc _ (by omega), MaskC1]
      have d2 : wr.cell? ⟨b, off + k * 5 + 2, none⟩ = some (.int .i64 (l k).f2) := by rw [hbl.cell (by exact hb), Nat.add_assoc, hc _ (by omega), MaskC2]
      have d3 : wr.cell? ⟨b, off + k * 5 + 3, none⟩ = some (.int .i64 (l k).f3) := by rw [hbl.cell (by exact hb), Nat.add_assoc, hc _ (by omega), MaskC3]
      have d4 : wr.cell? ⟨b, off + k * 5 + 4, none⟩ = some (.int .i64 (l k).f4) := by rw [hbl.cell (by exact hb), Nat.add_assoc, hc _ (by omega), MaskC4]
      clear hc
      have hal : Below w.heap.size w (wr.alloc (.cells #[.int .i64 (l k).f0, .int .i64 (l k).f1, .int .i64 (l k).f2, .int .i64 (l k).f3, .int .i64 (l k).f4] 71)) := hbl.alloc hbl.size _
      by_cases q0 : 0 ≤ (l k).f0 ∧ (l k).f0 ≤ 359999
      rotate_left
      · have i0 : inB (l k).f0 0 359999 = false := inB_no.2 q0
        go_wp2_with fail
        refine (l06Turn_eq _ _).mono ?_
        rintro e w' ⟨rfl, rfl⟩
        go_wp2_with fail
        go_ret
        exact ⟨ret_bool (masksOk_no (fun h => by have hg := h.2 k hlt; unfold MaskGood at hg; omega)).symm, hal⟩
      have i0 : inB (l k).f0 0 359999 = true := inB_iff.2 q0
      by_cases q1 : 0 ≤ (l k).f1 ∧ (l k).f1 ≤ 359999
      rotate_left
      · have i1 : inB (l k).f1 0 359999 = false := inB_no.2 q1
        go_wp2_with fail
        refine (l06Turn_eq _ _).mono ?_
        rintro e w' ⟨rfl, rfl⟩
        go_wp2_with fail
        refine (l06Turn_eq _ _).mono ?_
        rintro e w' ⟨rfl, rfl⟩
        go_wp2_with fail
        go_ret
        exact ⟨ret_bool (masksOk_no (fun h => by have hg := h.2 k hlt; unfold MaskGood at hg; omega)).symm, hal⟩
      have i1 : inB (l k).f1 0 359999 = true := inB_iff.2 q1
      by_cases q2 : 0 ≤ (l k).f3 ∧ (l k).f3 ≤ 90000
      rotate_left
      · have i2 : inB (l k).f3 0 90000 = false := inB_no.2 q2
        go_wp2_with fail
        refine (l06Turn_eq _ _).mono ?_
        rintro e w' ⟨rfl, rfl⟩
        go_wp2_with fail
        refine (l06Turn_eq _ _).mono ?_
        rintro e w' ⟨rfl, rfl⟩
        go_wp2_with fail
        refine (l00In_eq _ _ _ _).mono ?_
        rintro e w' ⟨rfl, rfl⟩
        go_wp2_with fail
        go_ret
        exact ⟨ret_bool (masksOk_no (fun h => by have hg := h.2 k hlt; unfold MaskGood at hg; omega)).symm, hal⟩
      have i2 : inB (l k).f3 0 90000 = true := inB_iff.2 q2
      by_cases q3 : 0 ≤ (l k).f2 ∧ (l k).f2 ≤ (l k).f3
      rotate_left
      · have i3 : inB (l k).f2 0 (l k).f3 = false := inB_no.2 q3
        go_wp2_with fail
        refine (l06Turn_eq _ _).mono ?_
        rintro e w' ⟨rfl, rfl⟩
        go_wp2_with fail
        refine (l06Turn_eq _ _).mono ?_
        rintro e w' ⟨rfl, rfl⟩
        go_wp2_with fail
        refine (l00In_eq _ _ _ _).mono ?_
        rintro e w' ⟨rfl, rfl⟩
        go_wp2_with fail
        refine (l00In_eq _ _ _ _).mono ?_
        rintro e w' ⟨rfl, rfl⟩
        go_wp2_with fail
        go_ret
        exact ⟨ret_bool (masksOk_no (fun h => by have hg := h.2 k hlt; unfold MaskGood at hg; omega)).symm, hal⟩
      have i3 : inB (l k).f2 0 (l k).f3 = true := inB_iff.2 q3
      by_cases q4 : 0 ≤ (l k).f4 ∧ (l k).f4 ≤ 1000
      rotate_left
      · have i4 : inB (l k).f4 0 1000 = false := inB_no.2 q4
        go_wp2_with fail
        refine (l06Turn_eq _ _).mono ?_
        rintro e w' ⟨rfl, rfl⟩
        go_wp2_with fail
        refine (l06Turn_eq _ _).mono ?_
        rintro e w' ⟨rfl, rfl⟩
        go_wp2_with fail
        refine (l00In_eq _ _ _ _).mono ?_
        rintro e w' ⟨rfl, rfl⟩
        go_wp2_with fail
        refine (l00In_eq _ _ _ _).mono ?_
        rintro e w' ⟨rfl, rfl⟩
        go_wp2_with fail
        refine (l12Level_eq _ _).mono ?_
        rintro e w' ⟨rfl, rfl⟩
        go_wp2_with fail
        go_ret
        exact ⟨ret_bool (masksOk_no (fun h => by have hg := h.2 k hlt; unfold MaskGood at hg; omega)).symm, hal⟩
      have i4 : inB (l k).f4 0 1000 = true := inB_iff.2 q4
      · go_wp2_with fail
        refine (l06Turn_eq _ _).mono ?_
        rintro e w' ⟨rfl, rfl⟩
        go_wp2_with fail
        refine (l06Turn_eq _ _).mono ?_
        rintro e w' ⟨rfl, rfl⟩
        go_wp2_with fail
        refine (l00In_eq _ _ _ _).mono ?_
        rintro e w' ⟨rfl, rfl⟩
        go_wp2_with fail
        refine (l00In_eq _ _ _ _).mono ?_
        rintro e w' ⟨rfl, rfl⟩
        go_wp2_with fail
        refine (l12Level_eq _ _).mono ?_
        rintro e w' ⟨rfl, rfl⟩
        go_wp2_with fail
        go_roundw
        case rel => exact ⟨k + 1, by omega, by go_num, hal, okAll HALL.out (by unfold MaskGood; omega)⟩
        case measure => simp [intOf]; omega
    · by_cases h8 : n ≤ 8
      · go_wp2_with fail
        go_ret
        exact ⟨ret_bool (by rw [masksOk_yes ⟨h8, fun j hj => HALL.out j (by omega)⟩]; simp; omega), hbl⟩
      · go_wp2_with fail
        go_ret
        exact ⟨ret_bool (by rw [masksOk_no (fun h => h8 h.1)]; simp; omega), hbl⟩

theorem specValidMasks_any (A : Option Addr) (n c : Nat) (l : Nat → MaskD) (w : World) (hn2 : n ≤ 1048576) (hs : Sl w A (n * 5) (MaskC l)) (hg : ∀ k, k < n → MaskOk (l k)) :
    Calls Try.prog 35 #[.slice A n c] w fun e w' => e = .returned (.bool (masksOk n l)) ∧ Below w.heap.size w w' := by
  go_enter Try.func35, Try.ntmps35
  go_wp2_with fail
  refine (l12Masks_any _ _ _ l _ hn2 hs hg).mono ?_
  rintro e w1 ⟨rfl, hb⟩
  go_wp2_with fail
  go_ret
  exact ⟨rfl, hb⟩
end Go.Proofs.Ytjomlcjchndkeaa
