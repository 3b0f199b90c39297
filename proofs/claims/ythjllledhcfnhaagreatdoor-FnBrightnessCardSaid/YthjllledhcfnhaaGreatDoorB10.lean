/- Small functions of the laws: a number that an input chooses; more numbers of the source. Conditions: the inputs' cells are bytes, their length is below 2^20. -/
import Derived.Test.YthjllledhcfnhaaGreatDoorSrc
namespace Go.Proofs.YthjllledhcfnhaaGreatDoor
open Go.RowKit Go.Lib Go.Ks
set_option maxHeartbeats 1000000 in
theorem b10Long_any (A1 : Option Addr) (n1 c1 : Nat) (w : World) (h1 : n1 ≤ 9223372036854775807) :
    Calls Tryz.prog 5 #[.slice A1 n1 c1] w fun e w' => e = .returned (.bool (decide (1048576 < n1))) ∧ Below w.heap.size w w' := by
  by_cases q1 : 1048576 < n1
  · have q1' : (1048576 : Int) < (n1 : Int) := by omega
    go_enter Tryz.func5, Tryz.ntmps5
    go_wp2_with fail
    go_ret
    exact ⟨by first | rfl | exact ret_bool (by simp [q1]), by repeat (first | with_reducible exact Below.refl _ _ | with_reducible assumption | with_reducible refine Below.setCell ?_ (by simp <;> omega) _ | with_reducible refine Below.alloc ?_ (by simp <;> omega) _ | with_reducible refine Below.drew ?_)⟩
  · have q1' : ¬ (1048576 : Int) < (n1 : Int) := by omega
    go_enter Tryz.func5, Tryz.ntmps5
    go_wp2_with fail
    go_ret
    exact ⟨by first | rfl | exact ret_bool (by simp [q1]), by repeat (first | with_reducible exact Below.refl _ _ | with_reducible assumption | with_reducible refine Below.setCell ?_ (by simp <;> omega) _ | with_reducible refine Below.alloc ?_ (by simp <;> omega) _ | with_reducible refine Below.drew ?_)⟩
set_option maxHeartbeats 1000000 in
theorem b10At_any (A : Option Addr) (n c : Nat) (l : Nat → Int) (k : Nat) (m : Int) (w : World) (hn : n ≤ 1048576) (hk : k ≤ 1000) (hm : 1 ≤ m ∧ m ≤ 1000000) (hs : Sl w A (n * 1) (ByteC l)) (hl : ∀ j, j < n → 0 ≤ l j ∧ l j ≤ 255) :
    Calls Tryz.prog 16 #[.slice A n c, .int .i64 (k : Int), .int .i64 m] w fun e w' => (∃ x : Int, e = .returned (.int .i64 x) ∧ 0 ≤ x ∧ x < m) ∧ Below w.heap.size w w' := by
  obtain ⟨m1, m2⟩ := hm
  by_cases hm' : m ≤ 1
  · go_enter Tryz.func16, Tryz.ntmps16
    go_wp2_with fail
    go_ret
    exact ⟨⟨0, rfl, by omega, by omega⟩, by repeat (first | with_reducible exact Below.refl _ _ | with_reducible assumption | with_reducible refine Below.setCell ?_ (by simp <;> omega) _ | with_reducible refine Below.alloc ?_ (by simp <;> omega) _ | with_reducible refine Below.drew ?_)⟩
  by_cases q : k < n
  · have q' : ¬ (n : Int) ≤ (k : Int) := by omega
    have q2 : (k : Int) < (n : Int) := by omega
    have hn' : (n : Int) ≤ 1048576 := by omega
    obtain ⟨b, off, rfl, hlt, hc⟩ := hs (by omega)
    have d0 : w.cell? ⟨b, off + k, none⟩ = some (.int .u8 (l k)) := hc k (by omega)
    obtain ⟨b1, b2⟩ := hl k q
    clear hc hl
    go_enter Tryz.func16, Tryz.ntmps16
    go_wp2_with fail
    go_ret
    exact ⟨⟨_, rfl, Int.emod_nonneg _ (by omega), Int.emod_lt_of_pos _ (by omega)⟩, by repeat (first | with_reducible exact Below.refl _ _ | with_reducible assumption | with_reducible refine Below.setCell ?_ (by simp <;> omega) _ | with_reducible refine Below.alloc ?_ (by simp <;> omega) _ | with_reducible refine Below.drew ?_)⟩
  · have q' : (n : Int) ≤ (k : Int) := by omega
    have hn' : (n : Int) ≤ 1048576 := by omega
    clear hl
    go_enter Tryz.func16, Tryz.ntmps16
    go_wp2_with fail
    go_ret
    exact ⟨⟨_, rfl, Int.emod_nonneg _ (by omega), Int.emod_lt_of_pos _ (by omega)⟩, by repeat (first | with_reducible exact Below.refl _ _ | with_reducible assumption | with_reducible refine Below.setCell ?_ (by simp <;> omega) _ | with_reducible refine Below.alloc ?_ (by simp <;> omega) _ | with_reducible refine Below.drew ?_)⟩
set_option maxRecDepth 100000 in
set_option maxHeartbeats 2000000 in
theorem one_any (s : Nat) (A : Option Addr) (n c : Nat) (l : Nat → Int) (k : Nat) (m : Int) (w : World) (hn : n ≤ 1048576) (hk : k ≤ 1099511627000) (hm : 1 ≤ m ∧ m ≤ 4611686018427387904) (h : Src w s A n c l k) :
    Calls Tryz.prog 74 #[.pointer (some ⟨s, 0, none⟩), .int .i64 m] w fun e w' => (∃ b : Bool, e = .returned (.bool b)) ∧ Src w' s A n c l (k + 2) ∧ w.grownBy w' (some s) := by
  have HK := Lib.hid hk
  clear hk
  go_enter Tryz.func74, Tryz.ntmps74
  go_wp2_with fail
  refine (pick_any s A n c l k m _ hn HK.out hm h).mono ?_
  rintro e w1 ⟨⟨x, rfl, x1, x2⟩, hs1, hg1⟩
  go_wp2_with fail
  go_ret
  exact ⟨⟨_, rfl⟩, hs1, hg1⟩
set_option maxRecDepth 100000 in
set_option maxHeartbeats 2000000 in
theorem text_any (s : Nat) (A : Option Addr) (n c : Nat) (l : Nat → Int) (k g m cm : Nat) (Q : ByteArray → Prop) (w : World) (hn : n ≤ 1048576) (hk : k ≤ 1099511627000) (hm : 1 ≤ m ∧ m ≤ 1048576) (hg : g < w.heap.size ∧ g ≠ s)
    (hv : ∀ j, j < m → ∃ x : ByteArray, w.cell? ⟨g, j, none⟩ = some (.string x) ∧ Q x) (h : Src w s A n c l k) :
    Calls Tryz.prog 91 #[.pointer (some ⟨s, 0, none⟩), .slice (some ⟨g, 0, none⟩) m cm] w fun e w' => (∃ x : ByteArray, e = .returned (.string x) ∧ Q x) ∧ Src w' s A n c l (k + 2) ∧ w.grownBy w' (some s) := by
  obtain ⟨m1, m2⟩ := hm
  have HV := Lib.hid hv
  have hk' := Lib.hid hk
  clear hv hk
  go_enter Tryz.func91, Tryz.ntmps91
  go_wp2_with fail
  refine (pick_any s A n c l k _ _ hn hk'.out (by omega) h).mono ?_
  rintro e w1 ⟨⟨x, rfl, x1, x2⟩, hs1, hg1⟩
  obtain ⟨j, rfl⟩ := Int.eq_ofNat_of_zero_le x1
  obtain ⟨y, hc, hq⟩ := HV.out j (by omega)
  have hcj : w1.cell? ⟨g, j, none⟩ = some (.string y) := hg1.cell hc (fun e => by injection e with e; exact hg.2 e)
  go_wp2_with fail
  go_ret
  exact ⟨⟨y, rfl, hq⟩, hs1, hg1⟩
end Go.Proofs.YthjllledhcfnhaaGreatDoor
