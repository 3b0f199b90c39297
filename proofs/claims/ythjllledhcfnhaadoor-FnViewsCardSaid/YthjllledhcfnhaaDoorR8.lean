/- Small functions of the laws on meshes and domes: a number that an input chooses, the distance of two spots. Conditions: the inputs' cells are bytes, their length is below 2^20. -/
import Derived.Test.YthjllledhcfnhaaDoorSrc
import Derived.Test.YthjllledhcfnhaaDoorUnwarp
namespace Go.Proofs.YthjllledhcfnhaaDoor
open Go.RowKit Go.Lib Go.Ks
set_option maxHeartbeats 1000000 in
theorem r8Long_any (A1 : Option Addr) (n1 c1 : Nat) (A2 : Option Addr) (n2 c2 : Nat) (w : World) (h1 : n1 ≤ 9223372036854775807) (h2 : n2 ≤ 9223372036854775807) :
    Calls Tryd.prog 30 #[.slice A1 n1 c1, .slice A2 n2 c2] w fun e w' => e = .returned (.bool (decide (1048576 < n1 ∨ 1048576 < n2))) ∧ Below w.heap.size w w' := by
  by_cases q1 : 1048576 < n1
  · have q1' : (1048576 : Int) < (n1 : Int) := by omega
    go_enter Tryd.func30, Tryd.ntmps30
    go_wp2_with fail
    go_ret
    exact ⟨by first | rfl | exact ret_bool (by simp [q1]), by repeat (first | with_reducible exact Below.refl _ _ | with_reducible assumption | with_reducible refine Below.setCell ?_ (by simp <;> omega) _ | with_reducible refine Below.alloc ?_ (by simp <;> omega) _ | with_reducible refine Below.drew ?_)⟩
  · have q1' : ¬ (1048576 : Int) < (n1 : Int) := by omega
    by_cases q2 : 1048576 < n2
    · have q2' : (1048576 : Int) < (n2 : Int) := by omega
      go_enter Tryd.func30, Tryd.ntmps30
      go_wp2_with fail
      go_ret
      exact ⟨rfl, by repeat (first | with_reducible exact Below.refl _ _ | with_reducible assumption | with_reducible refine Below.setCell ?_ (by simp <;> omega) _ | with_reducible refine Below.alloc ?_ (by simp <;> omega) _ | with_reducible refine Below.drew ?_)⟩
    · have q2' : ¬ (1048576 : Int) < (n2 : Int) := by omega
      go_enter Tryd.func30, Tryd.ntmps30
      go_wp2_with fail
      go_ret
      exact ⟨rfl, by repeat (first | with_reducible exact Below.refl _ _ | with_reducible assumption | with_reducible refine Below.setCell ?_ (by simp <;> omega) _ | with_reducible refine Below.alloc ?_ (by simp <;> omega) _ | with_reducible refine Below.drew ?_)⟩
set_option maxHeartbeats 1000000 in
theorem r8At_any (A : Option Addr) (n c : Nat) (l : Nat → Int) (k : Nat) (m : Int) (w : World) (hn : n ≤ 1048576) (hk : k ≤ 1000) (hm : 2 ≤ m ∧ m ≤ 1000000) (hs : Sl w A (n * 1) (ByteC l)) (hl : ∀ j, j < n → 0 ≤ l j ∧ l j ≤ 255) :
    Calls Tryd.prog 48 #[.slice A n c, .int .i64 (k : Int), .int .i64 m] w fun e w' => (∃ x : Int, e = .returned (.int .i64 x) ∧ 0 ≤ x ∧ x < m) ∧ Below w.heap.size w w' := by
  obtain ⟨m1, m2⟩ := hm
  have hm' : ¬ m ≤ 1 := by omega
  by_cases q : k < n
  · have q' : ¬ (n : Int) ≤ (k : Int) := by omega
    have q2 : (k : Int) < (n : Int) := by omega
    have hn' : (n : Int) ≤ 1048576 := by omega
    obtain ⟨b, off, rfl, hlt, hc⟩ := hs (by omega)
    have d0 : w.cell? ⟨b, off + k, none⟩ = some (.int .u8 (l k)) := hc k (by omega)
    obtain ⟨b1, b2⟩ := hl k q
    clear hc hl
    go_enter Tryd.func48, Tryd.ntmps48
    go_wp2_with fail
    go_ret
    exact ⟨⟨_, rfl, Int.emod_nonneg _ (by omega), Int.emod_lt_of_pos _ (by omega)⟩, by repeat (first | with_reducible exact Below.refl _ _ | with_reducible assumption | with_reducible refine Below.setCell ?_ (by simp <;> omega) _ | with_reducible refine Below.alloc ?_ (by simp <;> omega) _ | with_reducible refine Below.drew ?_)⟩
  · have q' : (n : Int) ≤ (k : Int) := by omega
    have hn' : (n : Int) ≤ 1048576 := by omega
    clear hl
    go_enter Tryd.func48, Tryd.ntmps48
    go_wp2_with fail
    go_ret
    exact ⟨⟨0, rfl, by omega, by omega⟩, by repeat (first | with_reducible exact Below.refl _ _ | with_reducible assumption | with_reducible refine Below.setCell ?_ (by simp <;> omega) _ | with_reducible refine Below.alloc ?_ (by simp <;> omega) _ | with_reducible refine Below.drew ?_)⟩
set_option maxHeartbeats 1000000 in
theorem r8Wide_any (A : Option Addr) (n c : Nat) (l : Nat → Int) (k : Nat) (m : Int) (w : World) (hn : n ≤ 1048576) (hk : k ≤ 999) (hm : 2 ≤ m ∧ m ≤ 1000000) (hs : Sl w A (n * 1) (ByteC l)) (hl : ∀ j, j < n → 0 ≤ l j ∧ l j ≤ 255) :
    Calls Tryd.prog 32 #[.slice A n c, .int .i64 (k : Int), .int .i64 m] w fun e w' => (∃ x : Int, e = .returned (.int .i64 x) ∧ 0 ≤ x ∧ x < m) ∧ Below w.heap.size w w' := by
  obtain ⟨m1, m2⟩ := hm
  go_enter Tryd.func32, Tryd.ntmps32
  go_wp2_with fail
  refine (r8At_any A n c l k 256 _ hn (by omega) (by decide) hs hl).mono ?_
  rintro e w1 ⟨⟨x, rfl, x1, x2⟩, hb1⟩
  go_wp2_with fail
  refine (r8At_any A n c l (k + 1) 256 _ hn (by omega) (by decide) (hs.below hb1) hl).mono ?_
  rintro e w2 ⟨⟨y, rfl, y1, y2⟩, hb2⟩
  go_wp2_with fail
  go_ret
  exact ⟨⟨_, rfl, Int.emod_nonneg _ (by omega), Int.emod_lt_of_pos _ (by omega)⟩, hb1.trans (hb2.mono hb1.size)⟩
set_option maxHeartbeats 1000000 in
theorem r8Abs_eq (x : Int) (w : World) (hx : -4000000000000 ≤ x ∧ x ≤ 4000000000000) :
    Calls Tryd.prog 38 #[.int .i64 x] w fun e w' => e = .returned (.int .i64 (iabs x)) ∧ w' = w := by
  obtain ⟨x1, x2⟩ := hx
  by_cases q : x < 0
  · go_enter Tryd.func38, Tryd.ntmps38
    go_wp2_with fail
    all_goals go_ret
    all_goals exact ⟨ret_int (by unfold iabs; split <;> omega), rfl⟩
  · go_enter Tryd.func38, Tryd.ntmps38
    go_wp2_with fail
    all_goals go_ret
    all_goals exact ⟨ret_int (by unfold iabs; split <;> omega), rfl⟩
theorem specRootOf_eq (n : Int) (hn : n ≤ 9223372036854775807) (w : World) :
    Calls Tryd.prog 34 #[.int .i64 n] w fun e w' => e = .returned (.int .i64 (iroot n)) ∧ w = w' := by
  go_enter Tryd.func34, Tryd.ntmps34
  go_wp2_with fail
  refine (l01Root_eq n hn _).mono ?_
  rintro e w1 ⟨rfl, rfl⟩
  go_wp2_with fail
  go_ret
  exact ⟨rfl, rfl⟩
set_option maxRecDepth 100000 in
set_option maxHeartbeats 2000000 in
theorem r8Far_any (p q r t : Int) (w : World) (h1 : Pl p q) (h2 : Pl r t) :
    Calls Tryd.prog 51 #[.agg #[.int .i64 p, .int .i64 q], .agg #[.int .i64 r, .int .i64 t]] w fun e w' => e = .returned (.int .i64 (iroot (gapS p q r t))) ∧ Below w.heap.size w w' := by
  obtain ⟨⟨p1, p2⟩, q1, q2⟩ := h1
  obtain ⟨⟨r1, r2⟩, t1, t2⟩ := h2
  obtain ⟨⟨g1, g2⟩, ⟨g3, g4⟩, g5, g6⟩ := gapS_bd p1 p2 q1 q2 r1 r2 t1 t2
  have E := Lib.hid (show gapS p q r t = (p - r) * (p - r) + (q - t) * (q - t) from rfl)
  have a1 : ¬ (9000000 < iabs (p - r)) := by unfold iabs; split <;> omega
  have a2 : ¬ (9000000 < iabs (q - t)) := by unfold iabs; split <;> omega
  go_enter Tryd.func51, Tryd.ntmps51
  go_wp2_with fail
  refine (r8Abs_eq _ _ (by omega)).mono ?_
  rintro e w1 ⟨rfl, rfl⟩
  go_wp2_with fail
  refine (r8Abs_eq _ _ (by omega)).mono ?_
  rintro e w1 ⟨rfl, rfl⟩
  go_wp2_with fail
  refine (specRootOf_eq _ (by omega) _).mono ?_
  rintro e w1 ⟨rfl, rfl⟩
  go_wp2_with fail
  go_ret
  refine ⟨ret_int (by rw [E.out]), ?_⟩
  repeat (first | with_reducible exact Below.refl _ _ | with_reducible assumption | with_reducible refine Below.setCell ?_ (by first | omega | (simp <;> omega)) _ | with_reducible refine Below.alloc ?_ (by first | omega | (simp <;> omega)) _ | with_reducible refine Below.drew ?_)
end Go.Proofs.YthjllledhcfnhaaDoor
