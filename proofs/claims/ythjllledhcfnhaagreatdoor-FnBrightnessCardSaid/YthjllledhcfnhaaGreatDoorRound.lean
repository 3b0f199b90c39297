/- Rounded quotients and lines: what the program's and the reference's functions answer. Conditions: the divisor is positive, the numbers are below 2 * 10^18. -/
import Derived.Test.YthjllledhcfnhaaGreatDoorRows
import Derived.Test.YthjllledhcfnhaaGreatDoorMath
namespace Go.Proofs.YthjllledhcfnhaaGreatDoor
open Go.RowKit Go.Lib Go.Ks

theorem absOf_any (n : Int) (hn : -9223372036854775807 ≤ n) (w : World) :
    Calls Tryz.prog 92 #[.int .i64 n] w fun e w' => e = .returned (.int .i64 (iabs n)) ∧ Below w.heap.size w w' := by
  by_cases h : n < 0
  · have e1 := iabs_neg h
    have E := Lib.hid e1
    clear e1
    go_enter Tryz.func92, Tryz.ntmps92
    go_wp2
    go_ret
    exact ⟨ret_int E.out.symm, Below.refl _ _⟩
  · have e1 := iabs_pos (n := n) (by omega)
    have E := Lib.hid e1
    clear e1
    go_enter Tryz.func92, Tryz.ntmps92
    go_wp2
    go_ret
    exact ⟨ret_int E.out.symm, Below.refl _ _⟩

set_option maxHeartbeats 800000 in
theorem l01Div_any (a b : Int) (hb : 0 < b) (hb2 : b ≤ 2000000000000000000) (h1 : -2000000000000000000 ≤ a) (h2 : a ≤ 2000000000000000000) (w : World) :
    Calls Tryz.prog 123 #[.int .i64 a, .int .i64 b] w fun e w' => e = .returned (.int .i64 (divr a b)) ∧ Below w.heap.size w w' := by
  by_cases h : a < 0
  · have E := Lib.hid (divr_neg (b := b) h)
    have q := quot_le (a := b - 2 * a) (b := 2 * b) (by omega) (by omega)
    go_enter Tryz.func123, Tryz.ntmps123
    go_wp2
    go_ret
    exact ⟨ret_int (by rw [E.out, show 2 * -a + b = b - 2 * a from by omega]), Below.refl _ _⟩
  · have E := Lib.hid (divr_pos (a := a) (b := b) (by omega))
    have q := quot_le (a := 2 * a + b) (b := 2 * b) (by omega) (by omega)
    go_enter Tryz.func123, Tryz.ntmps123
    go_wp2
    go_ret
    exact ⟨ret_int (by rw [E.out]), Below.refl _ _⟩

set_option maxHeartbeats 800000 in
theorem nearest_any (a b : Int) (hb : 0 < b) (hb2 : b ≤ 2000000000000000000) (h1 : -2000000000000000000 ≤ a) (h2 : a ≤ 2000000000000000000) (w : World) :
    Calls Tryz.prog 57 #[.int .i64 a, .int .i64 b] w fun e w' => e = .returned (.int .i64 (divr a b)) ∧ Below w.heap.size w w' := by
  have pb : iabs b = b := iabs_pos (by omega)
  by_cases h : 0 ≤ a
  · have q := quot_le h hb
    have r := rem_lt (a := a) hb
    have p1 : iabs (a % b) = a % b := iabs_pos r.1
    obtain ⟨q0, q1⟩ := q
    obtain ⟨r0, r1⟩ := r
    have E := Lib.hid (divr_pos (b := b) h)
    have R := Lib.hid (round_eq (a := a) hb)
    have g1 : (decide (a < 0) == decide (b < 0)) = true := by
      rw [decide_eq_false (by omega : ¬ a < 0), decide_eq_false (by omega : ¬ b < 0)]; rfl
    go_enter Tryz.func57, Tryz.ntmps57
    go_wp2_with fail
    refine wp_region_ext (by kernel_rfl) (by kernel_rfl) ?_
    repeat (go_big_quiet_step ((go_at_call 92; exact quiet_ext (absOf_any _ (by omega) _))))
    refine wpQuiet_nil ?_
    intro e1
    have hb1 := e1.below
    go_wp2_with fail
    refine (absOf_any _ (by omega) _).mono ?_
    rintro e w2 ⟨rfl, hb2'⟩
    have hb3 := hb1.trans (hb2'.mono hb1.size)
    by_cases t : a % b < b - a % b
    · go_wp2_with fail
      go_ret
      exact ⟨ret_int (by rw [E.out, R.out, if_pos t]), hb3⟩
    · go_wp2_with fail
      go_ret
      exact ⟨ret_int (by rw [E.out, R.out, if_neg (by omega)]), hb3⟩
  · obtain ⟨m, rfl⟩ : ∃ m, a = -m := ⟨-a, by omega⟩
    have hm : 0 ≤ m := by omega
    have q := quot_le hm hb
    have r := rem_lt (a := m) hb
    obtain ⟨q0, q1⟩ := q
    obtain ⟨r0, r1⟩ := r
    have t1 : (-m).tdiv b = -(m / b) := by rw [Int.neg_tdiv, Int.tdiv_eq_ediv_of_nonneg hm]
    have t2 : (-m).tmod b = -(m % b) := by rw [Int.neg_tmod, Int.tmod_eq_emod_of_nonneg hm]
    have t3 : m.tdiv b = m / b := Int.tdiv_eq_ediv_of_nonneg hm
    have t4 : m.tmod b = m % b := Int.tmod_eq_emod_of_nonneg hm
    have p1 : iabs (-(m % b)) = m % b := by
      by_cases z : m % b = 0
      · rw [z]; rfl
      · rw [iabs_neg (by omega)]; omega
    have E := Lib.hid (divr_neg (a := -m) (b := b) (by omega))
    have R := Lib.hid (round_eq (a := m) hb)
    have g1 : (decide (-m < 0) == decide (b < 0)) = false := by
      rw [decide_eq_true (by omega : -m < 0), decide_eq_false (by omega : ¬ b < 0)]; rfl
    have g2 : (decide (0 < m) == decide (b < 0)) = false := by
      rw [decide_eq_true (by omega : 0 < m), decide_eq_false (by omega : ¬ b < 0)]; rfl
    go_enter Tryz.func57, Tryz.ntmps57
    go_wp2_with fail
    refine wp_region_ext (by kernel_rfl) (by kernel_rfl) ?_
    repeat (go_big_quiet_step ((go_at_call 92; exact quiet_ext (absOf_any _ (by omega) _))))
    refine wpQuiet_nil ?_
    intro e1
    have hb1 := e1.below
    go_wp2_with fail
    refine (absOf_any _ (by omega) _).mono ?_
    rintro e w2 ⟨rfl, hb2'⟩
    have hb3 := hb1.trans (hb2'.mono hb1.size)
    by_cases t : m % b < b - m % b
    · go_wp2_with fail
      go_ret
      exact ⟨ret_int (by rw [E.out, Int.neg_neg, R.out, if_pos t]), hb3⟩
    · go_wp2_with fail
      go_ret
      exact ⟨ret_int (by rw [E.out, Int.neg_neg, R.out, if_neg (by omega)]; omega), hb3⟩
theorem line_fin {x0 y0 x1 y1 x : Int} (h : ¬ (x ≤ x0 ∨ x1 ≤ x0)) (h' : ¬ x1 ≤ x) : line x0 y0 x1 y1 x = y0 + divr ((y1 - y0) * (x - x0)) (x1 - x0) := by
  unfold line; rw [if_neg h, if_neg h']
/-- the bounds that a line wants: coordinates up to a million -/
def LineOk (x0 y0 x1 y1 x : Int) : Prop := (-1000000 ≤ x0 ∧ x0 ≤ 1000000) ∧ (-1000000 ≤ y0 ∧ y0 ≤ 1000000) ∧ (-1000000 ≤ x1 ∧ x1 ≤ 1000000) ∧ (-1000000 ≤ y1 ∧ y1 ≤ 1000000) ∧ (-1000000 ≤ x ∧ x ≤ 1000000)
theorem line_bd {x0 y0 x1 y1 x : Int} (h : LineOk x0 y0 x1 y1 x) (g : ¬ (x ≤ x0 ∨ x1 ≤ x0)) : -4000000000000 ≤ (y1 - y0) * (x - x0) ∧ (y1 - y0) * (x - x0) ≤ 4000000000000 := by
  obtain ⟨_, _, _, _, _⟩ := h
  have := mul_bd (a := y1 - y0) (b := x - x0) (m := 2000000) (n := 2000000) (by omega) (by omega) (by omega) (by omega) (by omega)
  omega

set_option maxHeartbeats 800000 in
theorem blend_any (x0 y0 x1 y1 x : Int) (ok : LineOk x0 y0 x1 y1 x) (w : World) :
    Calls Tryz.prog 75 #[.int .i64 x0, .int .i64 y0, .int .i64 x1, .int .i64 y1, .int .i64 x] w fun e w' => e = .returned (.int .i64 (line x0 y0 x1 y1 x)) ∧ Below w.heap.size w w' := by
  obtain ⟨⟨a1, a2⟩, ⟨a3, a4⟩, ⟨a5, a6⟩, ⟨a7, a8⟩, ⟨a9, a10⟩⟩ := ok
  have ok : LineOk x0 y0 x1 y1 x := ⟨⟨a1, a2⟩, ⟨a3, a4⟩, ⟨a5, a6⟩, ⟨a7, a8⟩, ⟨a9, a10⟩⟩
  have OK := Lib.hid ok
  clear ok
  by_cases g1 : x ≤ x0
  · have E : Hid (line x0 y0 x1 y1 x = y0) := Lib.hid (if_pos (.inl g1))
    go_enter Tryz.func75, Tryz.ntmps75
    go_wp2_with fail
    go_ret
    exact ⟨ret_int E.out.symm, Below.refl _ _⟩
  by_cases g2 : x1 ≤ x0
  · have E : Hid (line x0 y0 x1 y1 x = y0) := Lib.hid (if_pos (.inr g2))
    go_enter Tryz.func75, Tryz.ntmps75
    go_wp2_with fail
    go_ret
    exact ⟨ret_int E.out.symm, Below.refl _ _⟩
  by_cases g3 : x1 ≤ x
  · have E : Hid (line x0 y0 x1 y1 x = y1) := Lib.hid (by unfold line; rw [if_neg (by omega), if_pos g3])
    go_enter Tryz.func75, Tryz.ntmps75
    go_wp2_with fail
    go_ret
    exact ⟨ret_int E.out.symm, Below.refl _ _⟩
  have bd := line_bd OK.out (by omega)
  obtain ⟨bd1, bd2⟩ := bd
  have E := Lib.hid (line_fin (x0 := x0) (y0 := y0) (x1 := x1) (y1 := y1) (x := x) (by omega) (by omega))
  have dd := divr_bd (b := x1 - x0) (m := 4000000000000) (by omega) bd1 bd2
  obtain ⟨dd1, dd2⟩ := dd
  go_enter Tryz.func75, Tryz.ntmps75
  go_wp2_with fail
  refine (nearest_any _ _ (by omega) (by omega) (by omega) (by omega) _).mono ?_
  rintro e w1 ⟨rfl, hb⟩
  go_wp2_with fail
  go_ret
  exact ⟨ret_int E.out.symm, hb⟩
end Go.Proofs.YthjllledhcfnhaaGreatDoor
