/- The law file's own helpers over Mesh: copying, sizing, comparing, marking. No condition beyond those stated. -/
import Derived.Test.YtikonccofaiceaaDoorSSpot
import Derived.Lib.BufferOwn
namespace Go.Proofs.YtikonccofaiceaaDoor
open Go.RowKit Go.Lib Go.Ks

/-- a mesh -/
abbrev meshV (C R : Int) (A : Option Addr) (n c : Nat) : Value := .agg #[.int .i64 C, .int .i64 R, .slice A n c]
/-- a mesh of the call's own and a code -/
def RetM (w w' : World) (C R : Int) (n : Nat) (f : Nat → Value) (code : Int) (r : Ending) : Prop :=
  ∃ A c, r = .returned (.tuple #[.agg #[.int .i64 C, .int .i64 R, .slice A n c], .int .i64 code]) ∧ Own w' w.heap.size 49 2 A n f ∧ (A = none → c = 0)

set_option maxHeartbeats 1000000 in
theorem toMesh_any (C R : Int) (A : Option Addr) (n c : Nat) (l : Nat → SpotD) (w : World) (hn : n ≤ 1048576) (hs : Sl w A (n * 2) (SpotC l)) :
    Calls Tryd.prog 12 #[.agg #[.int .i64 C, .int .i64 R, .slice A n c]] w fun e w' => (∃ B, e = .returned (.agg #[.int .i64 C, .int .i64 R, .slice (some ⟨B, 0, none⟩) n n]) ∧ w.heap.size ≤ B ∧ Blk w' B 49 (arr (n * 2) (SpotC l))) ∧ Below w.heap.size w w' := by
  go_enter Tryd.func12, Tryd.ntmps12
  go_wp2_with fail
  refine (toSpotS_any _ n _ l _ hn (hs.below (by repeat (first | with_reducible exact Below.refl _ _ | with_reducible assumption | with_reducible refine Below.setCell ?_ (by simp <;> omega) _ | with_reducible refine Below.alloc ?_ (by simp <;> omega) _ | with_reducible refine Below.drew ?_)))).mono ?_
  rintro e w1 ⟨rfl, hb1, hk1⟩
  have z1 := hb1.size
  obtain ⟨q1, q2⟩ := bcell hb1
  have hbw : Below w.heap.size w w1 := (by repeat (first | with_reducible exact Below.refl _ _ | with_reducible assumption | with_reducible refine Below.setCell ?_ (by simp <;> omega) _ | with_reducible refine Below.alloc ?_ (by simp <;> omega) _ | with_reducible refine Below.drew ?_) : Below w.heap.size w _).trans (hb1.mono (by simp; omega))
  simp at z1 hk1
  have f0 : w1.cell? ⟨w.heap.size + 1, 0, none⟩ = some (.int .i64 0) := by rw [q1 _ _ (by simp; try omega)]; simp [go_sem]
  have f1 : w1.cell? ⟨w.heap.size + 1, 1, none⟩ = some (.int .i64 0) := by rw [q1 _ _ (by simp; try omega)]; simp [go_sem]
  have f2 : w1.cell? ⟨w.heap.size + 1, 2, none⟩ = some (.slice none 0 0) := by rw [q1 _ _ (by simp; try omega)]; simp [go_sem]
  go_wp2_with fail
  refine bodyPost_ret (v := .agg #[.int .i64 C, .int .i64 R, .slice (some ⟨w.heap.size + 1 + 1 + 1, 0, none⟩) n n]) (by simp [results, Tryd.results12, go_sem, f0, f1, f2]) rfl ⟨⟨_, rfl, by omega, ?_⟩, ?_⟩
  · exact (((hk1.far (by simp; try omega) _).far (by simp; try omega) _).far (by simp; try omega) _).far (by simp; try omega) _
  · repeat (first | with_reducible exact Below.refl _ _ | with_reducible assumption | with_reducible refine Below.setCell ?_ (by simp <;> omega) _ | with_reducible refine Below.alloc ?_ (by simp <;> omega) _ | with_reducible refine Below.drew ?_)
set_option maxHeartbeats 1000000 in
theorem szMesh_any (C R : Int) (A : Option Addr) (n c : Nat) (left : Int) (hn : n ≤ 9223372036854775807) (hl : 0 ≤ left) (hl2 : left ≤ 1048576) (w : World) :
    Calls Tryd.prog 10 #[.agg #[.int .i64 C, .int .i64 R, .slice A n c], .int .i64 left] w fun e w' => SzR left ((n : Int) ≤ left) e ∧ Below w.heap.size w w' := by
  go_enter Tryd.func10, Tryd.ntmps10
  go_wp2_with fail
  refine (szSpotS_any _ n _ left hn hl hl2 _).mono ?_
  rintro e w1 ⟨⟨r, rfl, hr⟩, hb1⟩
  have hbw : Below w.heap.size w w1 := (by repeat (first | with_reducible exact Below.refl _ _ | with_reducible assumption | with_reducible refine Below.setCell ?_ (by simp <;> omega) _ | with_reducible refine Below.alloc ?_ (by simp <;> omega) _ | with_reducible refine Below.drew ?_) : Below w.heap.size w _).trans (hb1.mono (by simp; try omega))
  rcases hr with rfl | ⟨h1, h2, h3⟩
  · go_wp2_with fail
    go_ret
    exact ⟨SzR.no _ _, hbw⟩
  · go_wp2_with fail
    go_ret
    exact ⟨SzR.yes h1 h2 h3, hbw⟩
set_option maxHeartbeats 1000000 in
theorem eqMesh_yes (C R : Int) (A A' : Option Addr) (n c c' : Nat) (l : Nat → SpotD) (w : World) (hn : n ≤ 9223372036854775807) (hs : Sl w A (n * 2) (SpotC l)) (hs' : Sl w A' (n * 2) (SpotC l)) :
    Calls Tryd.prog 14 #[.agg #[.int .i64 C, .int .i64 R, .slice A n c], .agg #[.int .i64 C, .int .i64 R, .slice A' n c']] w fun e w' => e = .returned (.bool true) ∧ Below w.heap.size w w' := by
  go_enter Tryd.func14, Tryd.ntmps14
  go_wp2_with fail
  refine (eqSpotS_yes _ _ n _ _ l _ hn (hs.below (by repeat (first | with_reducible exact Below.refl _ _ | with_reducible assumption | with_reducible refine Below.setCell ?_ (by simp <;> omega) _ | with_reducible refine Below.alloc ?_ (by simp <;> omega) _ | with_reducible refine Below.drew ?_))) (hs'.below (by repeat (first | with_reducible exact Below.refl _ _ | with_reducible assumption | with_reducible refine Below.setCell ?_ (by simp <;> omega) _ | with_reducible refine Below.alloc ?_ (by simp <;> omega) _ | with_reducible refine Below.drew ?_)))).mono ?_
  rintro e w1 ⟨rfl, hb1⟩
  have hbw : Below w.heap.size w w1 := (by repeat (first | with_reducible exact Below.refl _ _ | with_reducible assumption | with_reducible refine Below.setCell ?_ (by simp <;> omega) _ | with_reducible refine Below.alloc ?_ (by simp <;> omega) _ | with_reducible refine Below.drew ?_) : Below w.heap.size w _).trans (hb1.mono (by simp; try omega))
  go_wp2_with fail
  go_ret
  exact ⟨rfl, hbw⟩
set_option maxHeartbeats 1000000 in
theorem markMesh_any (C R : Int) (base : Nat) (A : Option Addr) (n c : Nat) (k0 : Int) (f : Nat → Value) (w : World) (hn : n ≤ 1048576) (hk0 : 0 ≤ k0) (hk1 : k0 ≤ 1000000000) (ho : Own w base 49 2 A n f) (hc : A = none → c = 0) :
    Calls Tryd.prog 17 #[.agg #[.int .i64 C, .int .i64 R, .slice A n c], .int .i64 k0] w fun e w' => e = .returned (.int .i64 (k0 + (n : Int) * 2)) ∧ w.grownBy w' (blockOf A) ∧ Own w' base 49 2 A n (mk k0 (n * 2) f) := by
  go_enter Tryd.func17, Tryd.ntmps17
  go_wp2_with fail
  refine (markSpotS_any base _ n _ k0 f _ hn hk0 hk1 (ho.below (by repeat (first | with_reducible exact Below.refl _ _ | with_reducible assumption | with_reducible refine Below.setCell ?_ (by simp <;> omega) _ | with_reducible refine Below.alloc ?_ (by simp <;> omega) _ | with_reducible refine Below.drew ?_))) hc).mono ?_
  rintro e w1 ⟨rfl, hg1, ho1⟩
  go_wp2_with fail
  go_ret
  exact ⟨rfl, grownBy_trans (only_alloc (World.grownBy.refl _ _) _) hg1, ho1⟩
theorem heldMesh_any (C R : Int) (A : Option Addr) (n c : Nat) (k0 : Int) (f : Nat → Value) (w : World) (hn : n ≤ 1048576) (hk0 : 0 ≤ k0) (hk1 : k0 ≤ 1000000000) (hs : Sl w A (n * 2) (mk k0 (n * 2) f)) :
    Calls Tryd.prog 18 #[.agg #[.int .i64 C, .int .i64 R, .slice A n c], .int .i64 k0] w fun e w' => e = .returned (.int .i64 (k0 + (n : Int) * 2)) ∧ Below w.heap.size w w' := by
  go_enter Tryd.func18, Tryd.ntmps18
  go_wp2_with fail
  refine (heldSpotS_any _ n _ k0 f _ hn hk0 hk1 (hs.below (by repeat (first | with_reducible exact Below.refl _ _ | with_reducible assumption | with_reducible refine Below.setCell ?_ (by simp <;> omega) _ | with_reducible refine Below.alloc ?_ (by simp <;> omega) _ | with_reducible refine Below.drew ?_)))).mono ?_
  rintro e w1 ⟨rfl, hb1⟩
  have hbw : Below w.heap.size w w1 := (by repeat (first | with_reducible exact Below.refl _ _ | with_reducible assumption | with_reducible refine Below.setCell ?_ (by simp <;> omega) _ | with_reducible refine Below.alloc ?_ (by simp <;> omega) _ | with_reducible refine Below.drew ?_) : Below w.heap.size w _).trans (hb1.mono (by simp; try omega))
  go_wp2_with fail
  go_ret
  exact ⟨rfl, hbw⟩
end Go.Proofs.YtikonccofaiceaaDoor
