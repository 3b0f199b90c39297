/- Where a point of an image lies: the program's function. Conditions: a valid mesh, a point of the image. -/
import Derived.Test.YthjllledhcfnhaaDoorAllocs
import Derived.Test.YthjllledhcfnhaaDoorMesh
import Derived.Test.YthjllledhcfnhaaDoorRound
import Derived.Test.YthjllledhcfnhaaDoorAppendStep
import Derived.Test.YthjllledhcfnhaaDoorWarpMath
import Derived.Test.YthjllledhcfnhaaDoorTail
import Derived.IntWalk
import Derived.Deep.RegionHeld3
import Derived.Deep.DeepCutAuto
import Derived.Test.YthjllledhcfnhaaDoorMinMax
namespace Go.Proofs.YthjllledhcfnhaaDoor
open Go.RowKit Go.Lib Go.Ks

/-- coordinates of the plane, shares of the unit -/
def Co (a : Int) : Prop := -2000000 ≤ a ∧ a ≤ 2000000
def Un (a : Int) : Prop := 0 ≤ a ∧ a ≤ 1000000
/-- the four corners of a cell, read -/
def Corners (w : World) (b off : Nat) (k c : Nat) (l : Nat → SpotD) : Prop :=
  ∀ q, (q = k ∨ q = k + 1 ∨ q = k + c ∨ q = k + c + 1) → w.cell? ⟨b, off + q * 2, none⟩ = some (.int .i64 (l q).f0) ∧ w.cell? ⟨b, off + q * 2 + 1, none⟩ = some (.int .i64 (l q).f1)
theorem corners_of {w : World} {b off n k c : Nat} {l : Nat → SpotD} (hc : ∀ j, j < n * 2 → w.cell? ⟨b, off + j, none⟩ = some (SpotC l j)) (h : k + c + 1 < n) : Corners w b off k c l := fun q hq => by
  have hq' : q < n := by omega
  constructor
  · rw [hc _ (by omega), SpotC0]
  · rw [Nat.add_assoc, hc _ (by omega), SpotC1]

theorem warp_fin {c r k : Nat} {l : Nat → SpotD} {u v I J : Int} (hk : warpK c r u v = (k : Int)) (hI : warpI c u = I) (hJ : warpI r v = J) :
    warpX c r l u v = mix (l k).f0 (l (k + 1)).f0 (l (k + c)).f0 (l (k + c + 1)).f0 (u * ((c : Int) - 1) - I * 1000000) (v * ((r : Int) - 1) - J * 1000000) ∧
    warpY c r l u v = mix (l k).f1 (l (k + 1)).f1 (l (k + c)).f1 (l (k + c + 1)).f1 (u * ((c : Int) - 1) - I * 1000000) (v * ((r : Int) - 1) - J * 1000000) := by
  unfold warpX warpY warpF
  rw [hk, hI, hJ, Int.toNat_natCast, Int.toNat_natCast]
  exact ⟨rfl, rfl⟩
end Go.Proofs.YthjllledhcfnhaaDoor
namespace Go.Proofs.YthjllledhcfnhaaDoor
open Go.RowKit Go.Lib Go.Ks

def spotG (u : Value) : Prop := ∃ x y : Int, u = .agg #[.int .i64 x, .int .i64 y]
def aggC : Value → Array Value | .agg c => c | _ => #[]
theorem allocSpot : AllocRun Tryd.prog 81 #[.int .i64 0, .int .i64 0] := fun w => by
  simp [go_sem, Instr.alloc]
theorem storeSpot : StoreRun Tryd.prog 81 #[.int .i64 0, .int .i64 0] spotG aggC := by
  rintro w B u ⟨x, y, rfl⟩ hb
  have h0 := hb.cell 0
  have h1 := hb.cell 1
  have g0 := hb.frozen 0
  have g1 := hb.frozen 1
  have hl := hb.lt
  simp at h0 h1
  refine ⟨(w.setCell ⟨B, 0, none⟩ (.int .i64 x)).setCell ⟨B, 1, none⟩ (.int .i64 y), ?_, by simp [World.setCell], fun base hbase => ?_, (hb.set_ 0 _).set_ 1 _, fun B' c hne hB => (hB.far (p := ⟨B, 0, none⟩) hne _).far (p := ⟨B, 1, none⟩) hne _⟩
  · simp [go_sem, Instr.storeAt, h0, h1, g0, g1]
  · exact (Below.setCell (Below.refl _ _) hbase _).setCell hbase _
end Go.Proofs.YthjllledhcfnhaaDoor
