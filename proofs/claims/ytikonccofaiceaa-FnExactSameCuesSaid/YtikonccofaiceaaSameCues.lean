/- SameCues of the reference and of the program. Conditions: the slices read as cues. -/
import Derived.Test.YtikonccofaiceaaCue
import Derived.Laws.StructEq
namespace Go.Proofs.Ytikonccofaiceaa
open Go.RowKit Go.Lib Go.Ks

def sameCB (x y : CueD) : Bool := (x.f0.toList == y.f0.toList) && ((x.f1 == y.f1) && ((x.f2 == y.f2) && ((x.f3.toList == y.f3.toList) && ((x.f4 == y.f4) && (x.f5 == y.f5)))))
def SameCL (n : Nat) (l : Nat → CueD) (n' : Nat) (m : Nat → CueD) : Prop := n = n' ∧ ∀ k, k < n → sameCB (l k) (m k) = true
open Classical in
noncomputable def sameCL (n : Nat) (l : Nat → CueD) (n' : Nat) (m : Nat → CueD) : Bool := decide (SameCL n l n' m)
theorem sameCL_no {n n' : Nat} {l m : Nat → CueD} (h : ¬ SameCL n l n' m) : sameCL n l n' m = false := by simp [sameCL, h]
theorem sameCL_yes {n n' : Nat} {l m : Nat → CueD} (h : SameCL n l n' m) : sameCL n l n' m = true := by simp [sameCL, h]
theorem Try.cueStood : Try.prog.stoodInHeld 26 = false := by kernel_rfl
theorem Try.cueGuard : Try.prog.eqGuardType Try.prog.depth 26 = false := by kernel_rfl
set_option maxHeartbeats 4000000 in
theorem cueEq (x y : CueD) (w : World) : (Op.equalIn 10000 26 (.agg #[.string x.f0, .int .i64 x.f1, .int .i64 x.f2, .string x.f3, .int .i64 x.f4, .int .i64 x.f5]) (.agg #[.string y.f0, .int .i64 y.f1, .int .i64 y.f2, .string y.f3, .int .i64 y.f4, .int .i64 y.f5])).run Try.prog w = .ok (sameCB x y) w := by
  have hst := Try.cueStood
  unfold sameCB
  cases h0 : x.f0.toList == y.f0.toList
  · simp [go_sem, hst, h0]
  cases h1 : x.f1 == y.f1
  · simp [go_sem, hst, h0, h1]
  cases h2 : x.f2 == y.f2
  · simp [go_sem, hst, h0, h1, h2]
  cases h3 : x.f3.toList == y.f3.toList
  · simp [go_sem, hst, h0, h1, h2, h3]
  cases h4 : x.f4 == y.f4
  · simp [go_sem, hst, h0, h1, h2, h3, h4]
  cases h5 : x.f5 == y.f5
  · simp [go_sem, hst, h0, h1, h2, h3, h4, h5]
  · simp [go_sem, hst, h0, h1, h2, h3, h4, h5]
set_option maxHeartbeats 4000000 in
theorem l13Same_any (A : Option Addr) (n c : Nat) (l : Nat → CueD) (A' : Option Addr) (n' c' : Nat) (m : Nat → CueD) (w : World) (hn : n ≤ 1048576) (hs : Sl w A (n * 6) (CueC l)) (hn' : n' ≤ 1048576) (hs' : Sl w A' (n' * 6) (CueC m)) :
    Calls Try.prog 31 #[.slice A n c, .slice A' n' c'] w fun e w' => e = .returned (.bool (sameCL n l n' m)) ∧ Below w.heap.size w w' := by
  have q : (n : Int) ≤ 1048576 := by omega
  have q' : (n' : Int) ≤ 1048576 := by omega
  by_cases hne : n = n'
  rotate_left
  · have E := Lib.hid (sameCL_no (l := l) (m := m) (fun h => hne h.1))
    go_enter Try.func31, Try.ntmps31
    go_wp2_with fail
    go_ret
    exact ⟨ret_bool E.out.symm, Below.refl _ _⟩
  subst hne
  go_enter Try.func31, Try.ntmps31
  go_wp2_with fail
  go_loopw [5, 4] (fun i _ wr => ∃ k : Nat, k ≤ n ∧ i = .int .i64 k ∧ Below w.heap.size w wr ∧ ∀ j, j < k → sameCB (l j) (m j) = true) (fun i _ _ => n - (intOf i).toNat)
  case atStart => exact ⟨0, Nat.zero_le _, rfl, Below.refl _ _, fun j hj => absurd hj (by omega)⟩
  case round =>
    obtain ⟨k, hk, rfl, hbl, hall⟩ := hrel
    have HALL := Lib.hid hall
    clear hall
    by_cases hlt : k < n
    · obtain ⟨b, off, rfl, hc⟩ := CueAt.of_sl hs (by omega)
      obtain ⟨b', off', rfl, hc'⟩ := CueAt.of_sl hs' (by omega)
      obtain ⟨hbr, d0, d1, d2, d3, d4, d5⟩ := (hc k hlt).below hbl
      obtain ⟨hbr', e0, e1, e2, e3, e4, e5⟩ := (hc' k hlt).below hbl
      clear hc hc'
      have hgu := Try.cueGuard
      have heq := fun W => cueEq (l k) (m k) W
      cases q0 : sameCB (l k) (m k)
      · have E := Lib.hid (sameCL_no (n := n) (n' := n) (l := l) (m := m) (fun hh => by have := hh.2 k hlt; rw [q0] at this; cases this))
        go_wp2_with fail
        refine wp_region_ext (by kernel_rfl) (by kernel_rfl) ?_
        repeat (go_big_quiet_step (fail))
        refine wpQuiet_nil ?_
        intro f2
        have hb1 := hbl.trans (f2.below.mono hbl.size)
        go_wp2_with fail
        go_ret
        exact ⟨ret_bool E.out.symm, hb1⟩
      · have HOK := Lib.hid (okAll HALL.out q0)
        go_wp2_with fail
        refine wp_region_ext (by kernel_rfl) (by kernel_rfl) ?_
        repeat (go_big_quiet_step (fail))
        refine wpQuiet_nil ?_
        intro f2
        have hb1 := hbl.trans (f2.below.mono hbl.size)
        go_wp2_with fail
        go_roundw
        case rel => exact ⟨k + 1, by omega, by go_num, hb1, HOK.out⟩
        case measure => simp [intOf]; omega
    · have E := Lib.hid (sameCL_yes (l := l) (m := m) (n := n) (n' := n) ⟨rfl, fun j hj => HALL.out j (by omega)⟩)
      go_wp2_with fail
      go_ret
      exact ⟨ret_bool E.out.symm, hbl⟩
set_option maxHeartbeats 4000000 in
theorem equalCues_any (A : Option Addr) (n c : Nat) (l : Nat → CueD) (A' : Option Addr) (n' c' : Nat) (m : Nat → CueD) (w : World) (hn : n ≤ 1048576) (hs : Sl w A (n * 6) (CueC l)) (hn' : n' ≤ 1048576) (hs' : Sl w A' (n' * 6) (CueC m)) :
    Calls Try.prog 32 #[.slice A n c, .slice A' n' c'] w fun e w' => e = .returned (.bool (sameCL n l n' m)) ∧ Below w.heap.size w w' := by
  have q : (n : Int) ≤ 1048576 := by omega
  have q' : (n' : Int) ≤ 1048576 := by omega
  by_cases hne : n = n'
  rotate_left
  · have E := Lib.hid (sameCL_no (l := l) (m := m) (fun h => hne h.1))
    go_enter Try.func32, Try.ntmps32
    go_wp2_with fail
    go_ret
    exact ⟨ret_bool E.out.symm, Below.refl _ _⟩
  subst hne
  go_enter Try.func32, Try.ntmps32
  go_wp2_with fail
  go_loopw [13, 5] (fun i _ wr => ∃ k : Nat, k ≤ n ∧ i = .int .i64 k ∧ Below w.heap.size w wr ∧ ∀ j, j < k → sameCB (l j) (m j) = true) (fun i _ _ => n - (intOf i).toNat)
  case atStart => exact ⟨0, Nat.zero_le _, rfl, Below.refl _ _, fun j hj => absurd hj (by omega)⟩
  case round =>
    obtain ⟨k, hk, rfl, hbl, hall⟩ := hrel
    have HALL := Lib.hid hall
    clear hall
    by_cases hlt : k < n
    · obtain ⟨b, off, rfl, hc⟩ := CueAt.of_sl hs (by omega)
      obtain ⟨b', off', rfl, hc'⟩ := CueAt.of_sl hs' (by omega)
      obtain ⟨hbr, d0, d1, d2, d3, d4, d5⟩ := (hc k hlt).below hbl
      obtain ⟨hbr', e0, e1, e2, e3, e4, e5⟩ := (hc' k hlt).below hbl
      clear hc hc'
      have hgu := Try.cueGuard
      have heq := fun W => cueEq (l k) (m k) W
      cases q0 : sameCB (l k) (m k)
      · have E := Lib.hid (sameCL_no (n := n) (n' := n) (l := l) (m := m) (fun hh => by have := hh.2 k hlt; rw [q0] at this; cases this))
        go_wp2_with fail
        refine wp_region_ext (by kernel_rfl) (by kernel_rfl) ?_
        repeat (go_big_quiet_step (fail))
        refine wpQuiet_nil ?_
        intro f2
        have hb1 := hbl.trans (f2.below.mono hbl.size)
        go_wp2_with fail
        go_ret
        exact ⟨ret_bool E.out.symm, hb1⟩
      · have HOK := Lib.hid (okAll HALL.out q0)
        go_wp2_with fail
        refine wp_region_ext (by kernel_rfl) (by kernel_rfl) ?_
        repeat (go_big_quiet_step (fail))
        refine wpQuiet_nil ?_
        intro f2
        have hb1 := hbl.trans (f2.below.mono hbl.size)
        go_wp2_with fail
        go_roundw
        case rel => exact ⟨k + 1, by omega, by go_num, hb1, HOK.out⟩
        case measure => simp [intOf]; omega
    · have E := Lib.hid (sameCL_yes (l := l) (m := m) (n := n) (n' := n) ⟨rfl, fun j hj => HALL.out j (by omega)⟩)
      go_wp2_with fail
      go_ret
      exact ⟨ret_bool E.out.symm, hbl⟩
theorem specSameCues_any (A : Option Addr) (n c : Nat) (l : Nat → CueD) (A' : Option Addr) (n' c' : Nat) (m : Nat → CueD) (w : World) (hn : n ≤ 1048576) (hs : Sl w A (n * 6) (CueC l)) (_hg : ∀ k, k < n → CueOk (l k)) (hn' : n' ≤ 1048576) (hs' : Sl w A' (n' * 6) (CueC m)) (_hg' : ∀ k, k < n' → CueOk (m k)) :
    Calls Try.prog 13 #[.slice A n c, .slice A' n' c'] w fun e w' => e = .returned (.bool (sameCL n l n' m)) ∧ Below w.heap.size w w' := by
  go_enter Try.func13, Try.ntmps13
  go_wp2_with fail
  refine (l13Same_any _ _ _ l _ _ _ m _ hn hs hn' hs').mono ?_
  rintro e w1 ⟨rfl, hb1⟩
  go_wp2_with fail
  go_ret
  exact ⟨rfl, hb1⟩
theorem implSameCues_any (A : Option Addr) (n c : Nat) (l : Nat → CueD) (A' : Option Addr) (n' c' : Nat) (m : Nat → CueD) (w : World) (hn : n ≤ 1048576) (hs : Sl w A (n * 6) (CueC l)) (_hg : ∀ k, k < n → CueOk (l k)) (hn' : n' ≤ 1048576) (hs' : Sl w A' (n' * 6) (CueC m)) (_hg' : ∀ k, k < n' → CueOk (m k)) :
    Calls Try.prog 15 #[.slice A n c, .slice A' n' c'] w fun e w' => e = .returned (.bool (sameCL n l n' m)) ∧ Below w.heap.size w w' := by
  go_enter Try.func15, Try.ntmps15
  go_wp2_with fail
  refine (equalCues_any _ _ _ l _ _ _ m _ hn hs hn' hs').mono ?_
  rintro e w1 ⟨rfl, hb1⟩
  go_wp2_with fail
  go_ret
  exact ⟨rfl, hb1⟩
end Go.Proofs.Ytikonccofaiceaa
