/- SameMesh of the reference and of the program. Conditions: the slices read as spots. -/
import Derived.Test.YthjllledhcfnhaaDoorMesh
import Derived.Laws.StructEq
namespace Go.Proofs.YthjllledhcfnhaaDoor
open Go.RowKit Go.Lib Go.Ks

def SameAt (l m : Nat → SpotD) (k : Nat) : Prop := (l k).f0 = (m k).f0 ∧ (l k).f1 = (m k).f1
def SameSp (n : Nat) (l : Nat → SpotD) (n' : Nat) (m : Nat → SpotD) : Prop := n = n' ∧ ∀ k, k < n → SameAt l m k
open Classical in
noncomputable def sameSp (n : Nat) (l : Nat → SpotD) (n' : Nat) (m : Nat → SpotD) : Bool := decide (SameSp n l n' m)
theorem sameSp_no {n n' : Nat} {l m : Nat → SpotD} (h : ¬ SameSp n l n' m) : sameSp n l n' m = false := by simp [sameSp, h]
theorem sameSp_yes {n n' : Nat} {l m : Nat → SpotD} (h : SameSp n l n' m) : sameSp n l n' m = true := by simp [sameSp, h]
noncomputable def sameM (C R : Int) (n : Nat) (l : Nat → SpotD) (C' R' : Int) (n' : Nat) (m : Nat → SpotD) : Bool := decide (C = C') && decide (R = R') && sameSp n l n' m
theorem sameM_no1 {C R C' R' : Int} {n n' : Nat} {l m : Nat → SpotD} (h : C ≠ C') : sameM C R n l C' R' n' m = false := by simp [sameM, h]
theorem sameM_no2 {C R C' R' : Int} {n n' : Nat} {l m : Nat → SpotD} (h : R ≠ R') : sameM C R n l C' R' n' m = false := by simp [sameM, h]
theorem sameM_eq {C R : Int} {n n' : Nat} {l m : Nat → SpotD} : sameM C R n l C R n' m = sameSp n l n' m := by simp [sameM]

theorem Tryd.spotStood : Tryd.prog.stoodInHeld 81 = false := by kernel_rfl
theorem Tryd.spotGuard : Tryd.prog.eqGuardType Tryd.prog.depth 81 = false := by kernel_rfl
set_option maxHeartbeats 4000000 in
theorem l11Same_any (B : Nat) (C R : Int) (A : Option Addr) (n c : Nat) (l : Nat → SpotD) (B' : Nat) (C' R' : Int) (A' : Option Addr) (n' c' : Nat) (m : Nat → SpotD) (w : World) (hn : n ≤ 1048576) (hs : Sl w A (n * 2) (SpotC l)) (hm : MeshP w B C R A n c) (hn' : n' ≤ 1048576) (hs' : Sl w A' (n' * 2) (SpotC m)) (hm' : MeshP w B' C' R' A' n' c') :
    Calls Tryd.prog 107 #[.pointer (some ⟨B, 0, none⟩), .pointer (some ⟨B', 0, none⟩)] w fun e w' => e = .returned (.bool (sameM C R n l C' R' n' m)) ∧ Below w.heap.size w w' := by
  have q : (n : Int) ≤ 1048576 := by omega
  have q' : (n' : Int) ≤ 1048576 := by omega
  have hma := hm
  have hma' := hm'
  obtain ⟨o0, o1, o2, o3⟩ := hma
  obtain ⟨o0', o1', o2', o3'⟩ := hma'
  by_cases hC : C = C'
  rotate_left
  · have E := Lib.hid (sameM_no1 (R := R) (R' := R') (n := n) (n' := n') (l := l) (m := m) hC)
    have hd : decide (C = C') = false := by simpa using hC
    have hd1 : (C == C') = false := by simpa using hC
    have hd2 : (C != C') = true := by simpa using hC
    go_enter Tryd.func107, Tryd.ntmps107
    go_wp2_with fail
    refine wp_region_ext (by kernel_rfl) (by kernel_rfl) ?_
    repeat (go_big_quiet_step (fail))
    refine wpQuiet_nil ?_
    intro e2
    have hb1 := e2.below
    go_wp2_with fail
    go_ret
    exact ⟨ret_bool E.out.symm, hb1⟩
  subst hC
  by_cases hR : R = R'
  rotate_left
  · have E := Lib.hid (sameM_no2 (C := C) (C' := C) (n := n) (n' := n') (l := l) (m := m) hR)
    have hd : decide (R = R') = false := by simpa using hR
    have hd1 : (R == R') = false := by simpa using hR
    have hd2 : (R != R') = true := by simpa using hR
    go_enter Tryd.func107, Tryd.ntmps107
    go_wp2_with fail
    refine wp_region_ext (by kernel_rfl) (by kernel_rfl) ?_
    repeat (go_big_quiet_step (fail))
    refine wpQuiet_nil ?_
    intro e2
    have hb1 := e2.below
    go_wp2_with fail
    go_ret
    exact ⟨ret_bool E.out.symm, hb1⟩
  subst hR
  by_cases hne : n = n'
  rotate_left
  · have E := Lib.hid ((sameM_eq (C := C) (R := R)).trans (sameSp_no (l := l) (m := m) (fun h => hne h.1)))
    have hd : decide ((n : Int) = (n' : Int)) = false := by simp; omega
    have hd0 : decide (n = n') = false := by simpa using hne
    have hd1 : (n == n') = false := by simpa using hne
    have hd2 : (n != n') = true := by simpa using hne
    go_enter Tryd.func107, Tryd.ntmps107
    go_wp2_with fail
    refine wp_region_ext (by kernel_rfl) (by kernel_rfl) ?_
    repeat (go_big_quiet_step (fail))
    refine wpQuiet_nil ?_
    intro e2
    have hb1 := e2.below
    go_wp2_with fail
    go_ret
    exact ⟨ret_bool E.out.symm, hb1⟩
  subst hne
  go_enter Tryd.func107, Tryd.ntmps107
  go_wp2_with fail
  refine wp_region_ext (by kernel_rfl) (by kernel_rfl) ?_
  repeat (go_big_quiet_step (fail))
  refine wpQuiet_nil ?_
  intro e2
  have hbo := e2.below
  go_wp2_with fail
  go_loopw [5] (fun i wr => ∃ k : Nat, k ≤ n ∧ i = .int .i64 k ∧ Below w.heap.size w wr ∧ ∀ j, j < k → SameAt l m j) (fun i _ => n - (intOf i).toNat)
  case atStart => exact ⟨0, Nat.zero_le _, rfl, hbo, fun j hj => absurd hj (by omega)⟩
  case round =>
    obtain ⟨k, hk, rfl, hbl, hall⟩ := hrel
    have hmr := hm.below hbl
    have hmr' := hm'.below hbl
    obtain ⟨p0, p1, p2, p3⟩ := hmr
    obtain ⟨p0', p1', p2', p3'⟩ := hmr'
    have HALL := Lib.hid hall
    clear hall
    by_cases hlt : k < n
    · obtain ⟨b, off, rfl, hb, hc⟩ := hs (by omega)
      obtain ⟨b', off', rfl, hb', hc'⟩ := hs' (by omega)
      have hbr : b < wr.heap.size := by have := hbl.size; omega
      have hbr' : b' < wr.heap.size := by have := hbl.size; omega
      have d0 : wr.cell? ⟨b, off + k * 2, none⟩ = some (.int .i64 (l k).f0) := by rw [hbl.cell (by exact hb), hc _ (by omega), SpotC0]
      have d1 : wr.cell? ⟨b, off + k * 2 + 1, none⟩ = some (.int .i64 (l k).f1) := by rw [hbl.cell (by exact hb), Nat.add_assoc, hc _ (by omega), SpotC1]
      have e0 : wr.cell? ⟨b', off' + k * 2, none⟩ = some (.int .i64 (m k).f0) := by rw [hbl.cell (by exact hb'), hc' _ (by omega), SpotC0]
      have e1 : wr.cell? ⟨b', off' + k * 2 + 1, none⟩ = some (.int .i64 (m k).f1) := by rw [hbl.cell (by exact hb'), Nat.add_assoc, hc' _ (by omega), SpotC1]
      clear hc hc'
      have hst := Tryd.spotStood
      have hgu := Tryd.spotGuard
      have hbad : (¬ SameAt l m k) → sameM C R n l C R n m = false := fun h => (sameM_eq (C := C) (R := R)).trans (sameSp_no (fun hh => h (hh.2 k hlt)))
      have HBAD := Lib.hid hbad
      clear hbad
      by_cases q0 : (l k).f0 = (m k).f0
      rotate_left
      · have E := Lib.hid (HBAD.out (fun h => q0 h.1))
        go_wp2_with fail
        refine wp_region_ext (by kernel_rfl) (by kernel_rfl) ?_
        repeat (go_big_quiet_step (fail))
        refine wpQuiet_nil ?_
        intro e2
        have hb1 := hbl.trans (e2.below.mono hbl.size)
        go_wp2_with fail
        go_ret
        exact ⟨ret_bool E.out.symm, hb1⟩
      by_cases q1 : (l k).f1 = (m k).f1
      rotate_left
      · have E := Lib.hid (HBAD.out (fun h => q1 h.2))
        go_wp2_with fail
        refine wp_region_ext (by kernel_rfl) (by kernel_rfl) ?_
        repeat (go_big_quiet_step (fail))
        refine wpQuiet_nil ?_
        intro e2
        have hb1 := hbl.trans (e2.below.mono hbl.size)
        go_wp2_with fail
        go_ret
        exact ⟨ret_bool E.out.symm, hb1⟩
      have HOK := Lib.hid (okAll HALL.out (And.intro q0 q1 : SameAt l m k))
      go_wp2_with fail
      refine wp_region_ext (by kernel_rfl) (by kernel_rfl) ?_
      repeat (go_big_quiet_step (fail))
      refine wpQuiet_nil ?_
      intro e2
      have hb1 := hbl.trans (e2.below.mono hbl.size)
      go_wp2_with fail
      go_roundw
      case rel => exact ⟨k + 1, by omega, by go_num, hb1, HOK.out⟩
      case measure => simp [intOf]; omega
    · have E := Lib.hid ((sameM_eq (C := C) (R := R)).trans (sameSp_yes (l := l) (m := m) (n := n) (n' := n) ⟨rfl, fun j hj => HALL.out j (by omega)⟩))
      go_wp2_with fail
      go_ret
      exact ⟨ret_bool E.out.symm, hbl⟩

theorem specSameMesh_any (C R : Int) (A : Option Addr) (n c : Nat) (l : Nat → SpotD) (C' R' : Int) (A' : Option Addr) (n' c' : Nat) (m : Nat → SpotD) (w : World) (hn : n ≤ 1048576) (hs : Sl w A (n * 2) (SpotC l)) (_hg : ∀ k, k < n → SpotOk (l k)) (hn' : n' ≤ 1048576) (hs' : Sl w A' (n' * 2) (SpotC m)) (_hg' : ∀ k, k < n' → SpotOk (m k)) :
    Calls Tryd.prog 46 #[.agg #[.int .i64 C, .int .i64 R, .slice A n c], .agg #[.int .i64 C', .int .i64 R', .slice A' n' c']] w fun e w' => e = .returned (.bool (sameM C R n l C' R' n' m)) ∧ Below w.heap.size w w' := by
  go_enter Tryd.func46, Tryd.ntmps46
  go_wp2_with fail
  have m1 := (MeshP.new w 69 C R A n c).below ((Below.refl _ _).alloc (Nat.le_refl _) (.cells #[.int .i64 C', .int .i64 R', .slice A' n' c'] 69))
  have m2 := MeshP.new (w.alloc (.cells #[.int .i64 C, .int .i64 R, .slice A n c] 69)) 69 C' R' A' n' c'
  simp at m2
  refine (l11Same_any _ C R _ n c l _ C' R' _ n' c' m _ hn (hs.below (by repeat (first | with_reducible exact Below.refl _ _ | with_reducible assumption | with_reducible refine Below.setCell ?_ (by simp <;> omega) _ | with_reducible refine Below.alloc ?_ (by simp <;> omega) _ | with_reducible refine Below.drew ?_))) m1 hn' (hs'.below (by repeat (first | with_reducible exact Below.refl _ _ | with_reducible assumption | with_reducible refine Below.setCell ?_ (by simp <;> omega) _ | with_reducible refine Below.alloc ?_ (by simp <;> omega) _ | with_reducible refine Below.drew ?_))) m2).mono ?_
  rintro e w1 ⟨rfl, hb1⟩
  have hbw : Below w.heap.size w w1 := (by repeat (first | with_reducible exact Below.refl _ _ | with_reducible assumption | with_reducible refine Below.setCell ?_ (by simp <;> omega) _ | with_reducible refine Below.alloc ?_ (by simp <;> omega) _ | with_reducible refine Below.drew ?_) : Below w.heap.size w _).trans (hb1.mono (by simp; try omega))
  go_wp2_with fail
  go_ret
  exact ⟨rfl, hbw⟩
end Go.Proofs.YthjllledhcfnhaaDoor
