/- Mirrored meshes. Conditions: the slice reads as spots. -/
import Derived.Deep.RegionHeld3
import Derived.Deep.DeepCutAuto
import Derived.Test.YthjllledhcfnhaaGreatDoorMesh
import Derived.Test.YthjllledhcfnhaaGreatDoorRound
import Derived.Test.YthjllledhcfnhaaGreatDoorAppendStep
import Derived.Test.YthjllledhcfnhaaGreatDoorWarpMath
import Derived.IntWalk
namespace Go.Proofs.YthjllledhcfnhaaGreatDoor
open Go.RowKit Go.Lib Go.Ks

theorem Tryz.infoSpot : (Tryz.prog.info? 49).map (fun i => (i.zero, i.size, i.bytes)) = some (some (.agg #[.int .i64 0, .int .i64 0]), 2, 16) := by kernel_rfl
theorem spot_one (l : Nat → SpotD) (n j : Nat) (hj : j < 2) : (SpotC l (n * 2 + j)).oneCell' = true := by
  match j, hj with
  | 0, _ => rw [Nat.add_zero, SpotC0]; rfl
  | 1, _ => rw [SpotC1]; rfl
def plX (C : Int) (i : Int) : Int := divr (2000000 * i) (C - 1) - 1000000
def plL (C R : Int) : Nat → SpotD := fun k => ⟨plX C ((k % C.toNat : Nat) : Int), plX R ((k / C.toNat : Nat) : Int)⟩
theorem plL_at {C R : Int} {r i : Nat} (h0 : 0 ≤ C) (h : (i : Int) < C) : plL C R (r * C.toNat + i) = ⟨plX C i, plX R r⟩ := by
  have hi : i < C.toNat := by omega
  unfold plL
  rw [Nat.mul_comm r, Nat.mul_add_mod, Nat.mod_eq_of_lt hi, Nat.mul_add_div (by omega), Nat.div_eq_of_lt hi, Nat.add_zero]
def plOk (C R : Int) : Bool := inB C 2 9 && inB R 2 9
def mPlainMeshA (C R : Int) : Int := if plOk C R = true then C else 0
def mPlainMeshB (C R : Int) : Int := if plOk C R = true then R else 0
def mPlainMeshN (C R : Int) : Nat := if plOk C R = true then R.toNat * C.toNat else 0
def mPlainMeshL (C R : Int) : Nat → SpotD := plL C R
def mPlainMeshC (C R : Int) : Int := if plOk C R = true then 0 else 2
theorem mPlainMesh_no {C R : Int} (h : plOk C R = false) : mPlainMeshA C R = 0 ∧ mPlainMeshB C R = 0 ∧ mPlainMeshN C R = 0 ∧ mPlainMeshC C R = 2 := by simp [mPlainMeshA, mPlainMeshB, mPlainMeshN, mPlainMeshC, h]
theorem mPlainMesh_ok {C R : Int} (h : plOk C R = true) : mPlainMeshA C R = C ∧ mPlainMeshB C R = R ∧ mPlainMeshN C R = R.toNat * C.toNat ∧ mPlainMeshC C R = 0 := by simp [mPlainMeshA, mPlainMeshB, mPlainMeshN, mPlainMeshC, h]
theorem mPlainMesh_len (C R : Int) : mPlainMeshN C R ≤ 1048576 := by
  unfold mPlainMeshN
  split
  · rename_i h
    simp [plOk, inB_iff] at h
    have : R.toNat * C.toNat ≤ 9 * 9 := Nat.mul_le_mul (by omega) (by omega)
    omega
  · omega
theorem retM {w w' : World} {C R C' R' : Int} {n n' : Nat} {f : Nat → Value} {code code' : Int} {A : Option Addr} {c : Nat} (hC : C = C') (hR : R = R') (hn : n = n') (hc : code = code') (h : Own w' w.heap.size 49 2 A n f) (hz : A = none → c = 0) :
    RetM w w' C' R' n' f code' (.returned (.tuple #[.agg #[.int .i64 C, .int .i64 R, .slice A n c], .int .i64 code])) := by
  subst hC; subst hR; subst hn; subst hc; exact ⟨A, c, rfl, h, hz⟩
/-- a mesh of the call's own, alone -/
def RetM1 (w w' : World) (C R : Int) (n : Nat) (f : Nat → Value) (r : Ending) : Prop :=
  ∃ A c, r = .returned (.agg #[.int .i64 C, .int .i64 R, .slice A n c]) ∧ Own w' w.heap.size 49 2 A n f ∧ (A = none → c = 0)
theorem retM1 {w w' : World} {C R : Int} {n : Nat} {f : Nat → Value} {A : Option Addr} {c : Nat} (h : Own w' w.heap.size 49 2 A n f) (hz : A = none → c = 0) :
    RetM1 w w' C R n f (.returned (.agg #[.int .i64 C, .int .i64 R, .slice A n c])) := ⟨A, c, rfl, h, hz⟩
theorem spot_news {w : World} {l : Nat → SpotD} {k : Nat} {x y : Int} (h : l k = ⟨x, y⟩) : ∀ j, j < 2 → (w.alloc (.cells #[.int .i64 x, .int .i64 y] 49)).cell? ⟨w.heap.size, j, none⟩ = some (SpotC l (k * 2 + j)) := fun j hj => by
  rw [(Blk.new w 49 #[.int .i64 x, .int .i64 y]).cell]
  match j, hj with
  | 0, _ => rw [Nat.add_zero, SpotC0, h]; rfl
  | 1, _ => rw [SpotC1, h]; rfl

theorem pl_bd {C : Int} {i : Int} (h1 : 2 ≤ C) (h2 : C ≤ 9) (h3 : 0 ≤ i) (h4 : i < C) : (0 ≤ 2000000 * i ∧ 2000000 * i ≤ 18000000) ∧ -1000000 ≤ plX C i ∧ plX C i ≤ 1000000 := by
  have e0 := divr_nonneg (a := 2000000 * i) (b := C - 1) (by omega) (by omega)
  have e1 := divr_mono (a := 2000000 * i) (a' := 2000000 * (C - 1)) (b := C - 1) (by omega) (by omega)
  rw [divr_mul (by omega)] at e1
  unfold plX
  omega

end Go.Proofs.YthjllledhcfnhaaGreatDoor
namespace Go.Proofs.YthjllledhcfnhaaGreatDoor
open Go.RowKit Go.Lib Go.Ks

theorem spot_news' {w : World} {l : Nat → SpotD} {k g : Nat} {x y : Int} (hg : g = w.heap.size) (h : l k = ⟨x, y⟩) : ∀ j, j < 2 → (w.alloc (.cells #[.int .i64 x, .int .i64 y] 49)).cell? ⟨g, j, none⟩ = some (SpotC l (k * 2 + j)) := by
  subst hg
  exact spot_news h
/-- point q of the mirrored mesh -/
def mirL (c : Nat) (l : Nat → SpotD) : Nat → SpotD := fun q => ⟨-(l (q / c * c + (c - 1 - q % c))).f0, (l (q / c * c + (c - 1 - q % c))).f1⟩
theorem mirL_at {c r i : Nat} {l : Nat → SpotD} (h : i < c) : mirL c l (r * c + i) = ⟨-(l (r * c + (c - 1 - i))).f0, (l (r * c + (c - 1 - i))).f1⟩ := by
  unfold mirL
  have e1 : (r * c + i) / c = r := by rw [Nat.mul_comm, Nat.mul_add_div (by omega), Nat.div_eq_of_lt h, Nat.add_zero]
  have e2 : (r * c + i) % c = i := by rw [Nat.mul_comm, Nat.mul_add_mod, Nat.mod_eq_of_lt h]
  rw [e1, e2]
open Classical in
noncomputable def mMirrorMeshA (C R : Int) (n : Nat) (l : Nat → SpotD) : Int := if MeshOk C R n l then C else 0
open Classical in
noncomputable def mMirrorMeshB (C R : Int) (n : Nat) (l : Nat → SpotD) : Int := if MeshOk C R n l then R else 0
open Classical in
noncomputable def mMirrorMeshN (C R : Int) (n : Nat) (l : Nat → SpotD) : Nat := if MeshOk C R n l then n else 0
def mMirrorMeshL (C _R : Int) (_n : Nat) (l : Nat → SpotD) : Nat → SpotD := mirL C.toNat l
open Classical in
noncomputable def mMirrorMeshC (C R : Int) (n : Nat) (l : Nat → SpotD) : Int := if MeshOk C R n l then 0 else 1
section
variable {C R : Int} {n : Nat} {l : Nat → SpotD}
theorem mMirror_no (h : ¬ MeshOk C R n l) : mMirrorMeshA C R n l = 0 ∧ mMirrorMeshB C R n l = 0 ∧ mMirrorMeshN C R n l = 0 ∧ mMirrorMeshC C R n l = 1 := ⟨if_neg h, if_neg h, if_neg h, if_neg h⟩
theorem mMirror_ok (h : MeshOk C R n l) : mMirrorMeshA C R n l = C ∧ mMirrorMeshB C R n l = R ∧ mMirrorMeshN C R n l = n ∧ mMirrorMeshC C R n l = 0 := ⟨if_pos h, if_pos h, if_pos h, if_pos h⟩
theorem mesh_len (h : MeshOk C R n l) : n ≤ 81 := by
  obtain ⟨⟨h1, h2⟩, ⟨h3, h4⟩, h5, _⟩ := h
  have := mul_bd (a := C) (b := R) (m := 9) (n := 9) (by omega) (by omega) (by omega) (by omega) (by omega)
  omega
theorem mMirrorMesh_len (C R : Int) (n : Nat) (l : Nat → SpotD) : mMirrorMeshN C R n l ≤ 1048576 := by
  unfold mMirrorMeshN
  split
  · rename_i h
    have := mesh_len h
    omega
  · omega
end

/-- element k of a row of spots is stored anew -/
theorem spot_put {w : World} {B m n k : Nat} {h : Nat → Value} {L L' : Nat → SpotD} {x y : Int} (hb : Blk w B 49 (arr m h)) (hh : ∀ j, j < n * 2 → h j = SpotC L j) (hL : ∀ q, q ≠ k → L' q = L q) (hk : L' k = ⟨x, y⟩) :
    ∃ h', Blk ((w.setCell ⟨B, k * 2, none⟩ (.int .i64 x)).setCell ⟨B, k * 2 + 1, none⟩ (.int .i64 y)) B 49 (arr m h') ∧ ∀ j, j < n * 2 → h' j = SpotC L' j := by
  have h1 := (hb.set_ (k * 2) (.int .i64 x)).set_ (k * 2 + 1) (.int .i64 y)
  rw [arr_set, arr_set] at h1
  refine ⟨_, h1, fun j hj => ?_⟩
  by_cases e1 : j = k * 2 + 1
  · rw [if_pos e1, e1, SpotC1, hk]
  · rw [if_neg e1]
    by_cases e0 : j = k * 2
    · rw [if_pos e0, e0, SpotC0, hk]
    · rw [if_neg e0, hh j hj]
      have hq : j / 2 ≠ k := by omega
      have e := hL _ hq
      unfold SpotC rc SpotF
      split <;> rw [e]
def partL (f l : Nat → SpotD) (k : Nat) : Nat → SpotD := fun q => if q < k then f q else l q
theorem partL_step {f l : Nat → SpotD} {k : Nat} : ∀ q, q ≠ k → partL f l (k + 1) q = partL f l k q := fun q hq => by
  unfold partL
  by_cases h : q < k
  · rw [if_pos h, if_pos (by omega)]
  · rw [if_neg h, if_neg (by omega)]
theorem partL_at {f l : Nat → SpotD} {k : Nat} : partL f l (k + 1) k = f k := if_pos (by omega)
theorem partL_done {f l : Nat → SpotD} {n j : Nat} (hj : j < n * 2) : SpotC (partL f l n) j = SpotC f j := by
  have hq : j / 2 < n := by omega
  have e : partL f l n (j / 2) = f (j / 2) := if_pos hq
  unfold SpotC rc SpotF
  split <;> rw [e]
theorem partL_none {f l : Nat → SpotD} (j : Nat) : SpotC (partL f l 0) j = SpotC l j := by
  have e : partL f l 0 (j / 2) = l (j / 2) := if_neg (by omega)
  unfold SpotC rc SpotF
  split <;> rw [e]
theorem Own.some_blk {w : World} {base : Nat} {e : TypeId} {size : Nat} {A : Option Addr} {n : Nat} {f : Nat → Value} (h : Own w base e size A n f) (hn : 0 < n) : ∃ B m h', A = some ⟨B, 0, none⟩ ∧ base ≤ B ∧ Blk w B e (arr m h') ∧ n * size ≤ m ∧ ∀ j, j < n * size → h' j = f j := by
  rcases h with ⟨_, h0⟩ | h
  · omega
  · exact h
end Go.Proofs.YthjllledhcfnhaaGreatDoor
