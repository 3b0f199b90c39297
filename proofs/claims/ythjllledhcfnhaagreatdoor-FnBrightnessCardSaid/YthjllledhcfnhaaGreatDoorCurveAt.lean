/- The value of a curve: what the program's and the reference's functions answer. Conditions: the curve is valid, the level lies between 0 and 1000. -/
import Derived.Test.YthjllledhcfnhaaGreatDoorCurve
import Derived.Test.YthjllledhcfnhaaGreatDoorRound
import Derived.Test.YthjllledhcfnhaaGreatDoorCurveMath
namespace Go.Proofs.YthjllledhcfnhaaGreatDoor
open Go.RowKit Go.Lib Go.Ks

theorem seg_line {n : Nat} {l : Nat → KnotD} (h : CurveOk n l) {x : Int} (h0 : 0 ≤ x) (h1 : x ≤ 1000) {i : Nat} (hi : 1 ≤ i) (hn : i < n) : LineOk (l (i - 1)).f0 (l (i - 1)).f1 (l i).f0 (l i).f1 x := by
  have a := curve_in h (k := i - 1) (by omega)
  have b := curve_out h (k := i - 1) (by omega)
  have c := curve_in h hn
  have d := curve_out h hn
  exact ⟨⟨by omega, by omega⟩, ⟨by omega, by omega⟩, ⟨by omega, by omega⟩, ⟨by omega, by omega⟩, ⟨by omega, by omega⟩⟩

set_option maxHeartbeats 1000000 in
theorem curveAt_any (A : Option Addr) (n c : Nat) (l : Nat → KnotD) (x : Int) (w : World) (ok : CurveOk n l) (h0 : 0 ≤ x) (h1 : x ≤ 1000) (hs : Sl w A (n * 2) (KnotC l)) :
    Calls Tryz.prog 37 #[.slice A n c, .int .i64 x] w fun e w' => e = .returned (.int .i64 (curveVal n l x)) ∧ Below w.heap.size w w' := by
  have hn2 := ok.1
  have hn16 := ok.2.1
  have hlast := ok.2.2.2.1
  have LAST := Lib.hid hlast
  have OK := Lib.hid ok
  clear hlast ok
  obtain ⟨b, off, rfl, hb, hc⟩ := hs (by omega)
  have hn3 : (n : Int) ≤ 16 := by omega
  go_enter Tryz.func37, Tryz.ntmps37
  go_wp2_with fail
  go_loop [5] (fun i => ∃ k : Nat, 1 ≤ k ∧ k < n ∧ i = .int .i64 k ∧ ∀ j, 1 ≤ j → j < k → (l j).f0 < x) (fun i => n - (intOf i).toNat)
  case atStart => exact ⟨1, Nat.le_refl _, by omega, rfl, fun j h1 h2 => absurd h2 (by omega)⟩
  case round =>
    obtain ⟨k, hk1, hk2, rfl, hall⟩ := hrel
    have HALL := Lib.hid hall
    clear hall
    have d0 : w.cell? ⟨b, off + k * 2, none⟩ = some (.int .i64 (l k).f0) := by rw [hc _ (by omega), KnotC0]
    have d1 : w.cell? ⟨b, off + k * 2 + 1, none⟩ = some (.int .i64 (l k).f1) := by rw [Nat.add_assoc, hc _ (by omega), KnotC1]
    have p0 : w.cell? ⟨b, off + (k - 1) * 2, none⟩ = some (.int .i64 (l (k - 1)).f0) := by rw [hc _ (by omega), KnotC0]
    have p1 : w.cell? ⟨b, off + (k - 1) * 2 + 1, none⟩ = some (.int .i64 (l (k - 1)).f1) := by rw [Nat.add_assoc, hc _ (by omega), KnotC1]
    have HC := Lib.hid hc
    clear hc
    by_cases t : (l k).f0 < x
    · have hk3 : k + 1 < n := by
        rcases Nat.lt_or_ge (k + 1) n with h | h
        · exact h
        · obtain rfl : k = n - 1 := by omega
          have := LAST.out
          omega
      go_wp2_with fail
      go_round
      case rel =>
        refine ⟨k + 1, by omega, hk3, by go_num, fun j hj1 hj2 => ?_⟩
        by_cases e : j = k
        · subst e; exact t
        · exact HALL.out j hj1 (by omega)
      case measure => simp [intOf]; omega
    · have hseg : IsSeg n l x k := ⟨hk1, hk2, by omega, HALL.out⟩
      have E := Lib.hid (curveVal_eq hseg)
      clear hseg
      go_wp2_with fail
      refine wp_region_ext (by kernel_rfl) (by kernel_rfl) ?_
      repeat (go_big_quiet_step ((go_at_call 75; exact quiet_ext (blend_any _ _ _ _ _ (seg_line OK.out h0 h1 hk1 hk2) _))))
      refine wpQuiet_nil ?_
      intro e1
      have hb1 := e1.below
      go_wp2_with fail
      go_ret
      exact ⟨ret_int (by rw [E.out]; rfl), hb1⟩

end Go.Proofs.YthjllledhcfnhaaGreatDoor
