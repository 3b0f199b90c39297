/- The level that masks leave at a direction. Conditions: the masks are valid. -/
import Derived.Test.YtjomlcjchndkeaaMask
namespace Go.Proofs.Ytjomlcjchndkeaa
open Go.RowKit Go.Lib Go.Ks

def InM (x : MaskD) (a h : Int) : Prop := ((x.f0 ≤ x.f1 ∧ x.f0 ≤ a ∧ a ≤ x.f1) ∨ (x.f1 < x.f0 ∧ (x.f0 ≤ a ∨ a ≤ x.f1))) ∧ x.f2 ≤ h ∧ h ≤ x.f3
open Classical in
noncomputable def maskTo (l : Nat → MaskD) (a h : Int) : Nat → Int
  | 0 => 1000
  | k + 1 => if InM (l k) a h then maskTo l a h k * (l k).f4 / 1000 else maskTo l a h k
theorem maskTo_in {l : Nat → MaskD} {a h : Int} {k : Nat} (q : InM (l k) a h) : maskTo l a h (k + 1) = maskTo l a h k * (l k).f4 / 1000 := by rw [maskTo, if_pos q]
theorem maskTo_out {l : Nat → MaskD} {a h : Int} {k : Nat} (q : ¬ InM (l k) a h) : maskTo l a h (k + 1) = maskTo l a h k := by rw [maskTo, if_neg q]
theorem maskTo_bd {n : Nat} {l : Nat → MaskD} (ok : MasksOk n l) (a h : Int) : ∀ k, k ≤ n → 0 ≤ maskTo l a h k ∧ maskTo l a h k ≤ 1000
  | 0, _ => ⟨(by unfold maskTo; omega), (by unfold maskTo; omega)⟩
  | k + 1, hk => by
    have ih := maskTo_bd ok a h k (by omega)
    by_cases q : InM (l k) a h
    · rw [maskTo_in q]
      have g := (ok.2 k (by omega)).2.2.2.2.2
      have m := mul_bd (a := maskTo l a h k) (b := (l k).f4) (m := 1000) (n := 1000) (by omega) (by omega) g.1 g.2 (by omega)
      have m0 : 0 ≤ maskTo l a h k * (l k).f4 := Int.mul_nonneg ih.1 g.1
      omega
    · rw [maskTo_out q]; exact ih

set_option maxHeartbeats 4000000 in
theorem l12Mask_any (A : Option Addr) (n c : Nat) (l : Nat → MaskD) (a h : Int) (w : World) (ok : MasksOk n l) (hs : Sl w A (n * 5) (MaskC l)) :
    Calls Try.prog 62 #[.slice A n c, .int .i64 a, .int .i64 h] w fun e w' => e = .returned (.int .i64 (maskTo l a h n)) ∧ Below w.heap.size w w' := by
  have n8 := ok.1
  have hn3 : (n : Int) ≤ 8 := by omega
  have OK := Lib.hid ok
  clear ok
  go_enter Try.func62, Try.ntmps62
  go_wp2_with fail
  go_loopw [7, 8, 10] (fun t i _ wr => ∃ k : Nat, k ≤ n ∧ i = .int .i64 k ∧ t = .int .i64 (maskTo l a h k) ∧ Below w.heap.size w wr) (fun _ i _ _ => n - (intOf i).toNat)
  case atStart => exact ⟨0, Nat.zero_le _, rfl, rfl, Below.refl _ _⟩
  case round =>
    obtain ⟨k, hk, rfl, rfl, hbl⟩ := hrel
    by_cases hlt : k < n
    · obtain ⟨b, off, rfl, hb, hc⟩ := hs (by omega)
      have hbr : b < wr.heap.size := by have := hbl.size; omega
      have d0 : wr.cell? ⟨b, off + k * 5, none⟩ = some (.int .i64 (l k).f0) := by rw [hbl.cell (by exact hb), hc _ (by omega), MaskC0]
      have d1 : wr.cell? ⟨b, off + k * 5 + 1, none⟩ = some (.int .i64 (l k).f1) := by rw [hbl.cell (by exact hb), Nat.add_assoc, hc _ (by omega), MaskC1]
      have d2 : wr.cell? ⟨b, off + k * 5 + 2, none⟩ = some (.int .i64 (l k).f2) := by rw [hbl.cell (by exact hb), Nat.add_assoc, hc _ (by omega), MaskC2]
      have d3 : wr.cell? ⟨b, off + k * 5 + 3, none⟩ = some (.int .i64 (l k).f3) := by rw [hbl.cell (by exact hb), Nat.add_assoc, hc _ (by omega), MaskC3]
      have d4 : wr.cell? ⟨b, off + k * 5 + 4, none⟩ = some (.int .i64 (l k).f4) := by rw [hbl.cell (by exact hb), Nat.add_assoc, hc _ (by omega), MaskC4]
      clear hc
      have hal : Below w.heap.size w (wr.alloc (.cells #[.int .i64 (l k).f0, .int .i64 (l k).f1, .int .i64 (l k).f2, .int .i64 (l k).f3, .int .i64 (l k).f4] 71)) := hbl.alloc hbl.size _
      have mb := maskTo_bd OK.out a h k hk
      have mg := (OK.out.2 k hlt).2.2.2.2.2
      obtain ⟨mb1, mb2⟩ := mb
      obtain ⟨mg1, mg2⟩ := mg
      have mm := mul_bd (a := maskTo l a h k) (b := (l k).f4) (m := 1000) (n := 1000) (by omega) (by omega) mg1 mg2 (by omega)
      have m0 : 0 ≤ maskTo l a h k * (l k).f4 := Int.mul_nonneg mb1 mg1
      obtain ⟨mm1, mm2⟩ := mm
      go_wp2_with fail
      all_goals go_roundw
      all_goals first | (simp [intOf]; omega; done) | skip
      all_goals refine ⟨k + 1, by omega, by go_num, ret_num ?_, hal⟩
      all_goals skip
      all_goals first | (rw [maskTo_in (by unfold InM; omega)]; done) | (rw [maskTo_out (by unfold InM; omega)]; done)
    · obtain rfl : k = n := by omega
      go_wp2_with fail
      go_ret
      exact ⟨rfl, hbl⟩

set_option maxHeartbeats 4000000 in
theorem maskAt_any (A : Option Addr) (n c : Nat) (l : Nat → MaskD) (a h : Int) (w : World) (ok : MasksOk n l) (hs : Sl w A (n * 5) (MaskC l)) :
    Calls Try.prog 64 #[.slice A n c, .int .i64 a, .int .i64 h] w fun e w' => e = .returned (.int .i64 (maskTo l a h n)) ∧ Below w.heap.size w w' := by
  have n8 := ok.1
  have hn3 : (n : Int) ≤ 8 := by omega
  have OK := Lib.hid ok
  clear ok
  go_enter Try.func64, Try.ntmps64
  go_wp2_with fail
  go_loopw [7, 13, 10] (fun t i _ wr => ∃ k : Nat, k ≤ n ∧ i = .int .i64 k ∧ t = .int .i64 (maskTo l a h k) ∧ Below w.heap.size w wr) (fun _ i _ _ => n - (intOf i).toNat)
  case atStart => exact ⟨0, Nat.zero_le _, rfl, rfl, Below.refl _ _⟩
  case round =>
    obtain ⟨k, hk, rfl, rfl, hbl⟩ := hrel
    by_cases hlt : k < n
    · obtain ⟨b, off, rfl, hb, hc⟩ := hs (by omega)
      have hbr : b < wr.heap.size := by have := hbl.size; omega
      have d0 : wr.cell? ⟨b, off + k * 5, none⟩ = some (.int .i64 (l k).f0) := by rw [hbl.cell (by exact hb), hc _ (by omega), MaskC0]
      have d1 : wr.cell? ⟨b, off + k * 5 + 1, none⟩ = some (.int .i64 (l k).f1) := by rw [hbl.cell (by exact hb), Nat.add_assoc, hc _ (by omega), MaskC1]
      have d2 : wr.cell? ⟨b, off + k * 5 + 2, none⟩ = some (.int .i64 (l k).f2) := by rw [hbl.cell (by exact hb), Nat.add_assoc, hc _ (by omega), MaskC2]
      have d3 : wr.cell? ⟨b, off + k * 5 + 3, none⟩ = some (.int .i64 (l k).f3) := by rw [hbl.cell (by exact hb), Nat.add_assoc, hc _ (by omega), MaskC3]
      have d4 : wr.cell? ⟨b, off + k * 5 + 4, none⟩ = some (.int .i64 (l k).f4) := by rw [hbl.cell (by exact hb), Nat.add_assoc, hc _ (by omega), MaskC4]
      clear hc
      have hal : Below w.heap.size w (wr.alloc (.cells #[.int .i64 (l k).f0, .int .i64 (l k).f1, .int .i64 (l k).f2, .int .i64 (l k).f3, .int .i64 (l k).f4] 71)) := hbl.alloc hbl.size _
      have mb := maskTo_bd OK.out a h k hk
      have mg := (OK.out.2 k hlt).2.2.2.2.2
      obtain ⟨mb1, mb2⟩ := mb
      obtain ⟨mg1, mg2⟩ := mg
      have mm := mul_bd (a := maskTo l a h k) (b := (l k).f4) (m := 1000) (n := 1000) (by omega) (by omega) mg1 mg2 (by omega)
      have m0 : 0 ≤ maskTo l a h k * (l k).f4 := Int.mul_nonneg mb1 mg1
      obtain ⟨mm1, mm2⟩ := mm
      go_wp2_with (go_at_call 45; refine (within_eq _ _ _ _).mono ?_; rintro e w' ⟨rfl, rfl⟩)
      all_goals go_roundw
      all_goals first | (simp [intOf]; omega; done) | skip
      all_goals refine ⟨k + 1, by omega, by go_num, ret_num ?_, hal⟩
      all_goals (try simp only [inB_iff, inB_no] at *)
      all_goals first | (rw [maskTo_in (by unfold InM; omega)]; done) | (rw [maskTo_out (by unfold InM; omega)]; done)
    · obtain rfl : k = n := by omega
      go_wp2_with fail
      go_ret
      exact ⟨rfl, hbl⟩
end Go.Proofs.Ytjomlcjchndkeaa
