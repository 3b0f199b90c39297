/- Meshes: validity. Conditions: the slice reads as n spots. -/
import Derived.Test.YthjllledhcfnhaaGreatDoorSmall
import Derived.Test.YthjllledhcfnhaaGreatDoorSmallEq
import Derived.Test.YthjllledhcfnhaaGreatDoorMath
import Derived.Test.YthjllledhcfnhaaGreatDoorAppend
import Derived.Lib.SliceRun
import Derived.Lib.BufferOwn
namespace Go.Proofs.YthjllledhcfnhaaGreatDoor
open Go.RowKit Go.Lib Go.Ks

/-- a mesh -/
abbrev meshV (C R : Int) (A : Option Addr) (n c : Nat) : Value := .agg #[.int .i64 C, .int .i64 R, .slice A n c]
/-- a mesh of the call's own and a code -/
def RetM (w w' : World) (C R : Int) (n : Nat) (f : Nat → Value) (code : Int) (r : Ending) : Prop :=
  ∃ A c, r = .returned (.tuple #[.agg #[.int .i64 C, .int .i64 R, .slice A n c], .int .i64 code]) ∧ Own w' w.heap.size 49 2 A n f ∧ (A = none → c = 0)

end Go.Proofs.YthjllledhcfnhaaGreatDoor
namespace Go.Proofs.YthjllledhcfnhaaGreatDoor
open Go.RowKit Go.Lib Go.Ks

def plane (x y : Int) : Bool := inB x (-2000000) 2000000 && inB y (-2000000) 2000000
theorem plane_no1 {x y : Int} (h : inB x (-2000000) 2000000 = false) : plane x y = false := by simp [plane, h]
theorem plane_no2 {x y : Int} (h : inB x (-2000000) 2000000 = true) : plane x y = inB y (-2000000) 2000000 := by simp [plane, h]
theorem plane_iff {x y : Int} : plane x y = true ↔ (-2000000 ≤ x ∧ x ≤ 2000000) ∧ (-2000000 ≤ y ∧ y ≤ 2000000) := by simp [plane, inB_iff]
def MeshOk (C R : Int) (n : Nat) (l : Nat → SpotD) : Prop := (2 ≤ C ∧ C ≤ 9) ∧ (2 ≤ R ∧ R ≤ 9) ∧ (n : Int) = C * R ∧ ∀ k, k < n → plane (l k).f0 (l k).f1 = true
open Classical in
noncomputable def meshOk (C R : Int) (n : Nat) (l : Nat → SpotD) : Bool := decide (MeshOk C R n l)
theorem meshOk_no {C R : Int} {n : Nat} {l : Nat → SpotD} (h : ¬ MeshOk C R n l) : meshOk C R n l = false := by simp [meshOk, h]
theorem meshOk_yes {C R : Int} {n : Nat} {l : Nat → SpotD} (h : MeshOk C R n l) : meshOk C R n l = true := by simp [meshOk, h]
theorem meshOk_of {C R : Int} {n : Nat} {l : Nat → SpotD} (h : meshOk C R n l = true) : MeshOk C R n l := by simpa [meshOk] using h
/-- a mesh behind a pointer -/
def MeshP (w : World) (b : Nat) (C R : Int) (A : Option Addr) (n c : Nat) : Prop :=
  b < w.heap.size ∧ w.cell? ⟨b, 0, none⟩ = some (.int .i64 C) ∧ w.cell? ⟨b, 1, none⟩ = some (.int .i64 R) ∧ w.cell? ⟨b, 2, none⟩ = some (.slice A n c)
theorem MeshP.below {w w' : World} {b : Nat} {C R : Int} {A : Option Addr} {n c : Nat} (h : MeshP w b C R A n c) (hb : Below w.heap.size w w') : MeshP w' b C R A n c :=
  ⟨Nat.lt_of_lt_of_le h.1 hb.size, (hb.cell (p := ⟨b, 0, none⟩) h.1).trans h.2.1, (hb.cell (p := ⟨b, 1, none⟩) h.1).trans h.2.2.1, (hb.cell (p := ⟨b, 2, none⟩) h.1).trans h.2.2.2⟩
theorem MeshP.new (w : World) (t : TypeId) (C R : Int) (A : Option Addr) (n c : Nat) : MeshP (w.alloc (.cells #[.int .i64 C, .int .i64 R, .slice A n c] t)) w.heap.size C R A n c := by
  have h := Blk.new w t #[.int .i64 C, .int .i64 R, .slice A n c]
  exact ⟨h.lt, h.cell 0, h.cell 1, h.cell 2⟩

end Go.Proofs.YthjllledhcfnhaaGreatDoor
