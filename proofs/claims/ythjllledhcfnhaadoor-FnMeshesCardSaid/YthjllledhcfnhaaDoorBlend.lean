/- A mesh between two. Conditions: the slices read as spots. -/
import Derived.Test.YthjllledhcfnhaaDoorMirror
import Derived.Test.YthjllledhcfnhaaDoorTail
import Derived.Test.YthjllledhcfnhaaDoorWarpImpl
import Derived.Test.YthjllledhcfnhaaDoorMake
namespace Go.Proofs.YthjllledhcfnhaaDoor
open Go.RowKit Go.Lib Go.Ks

def betw (a b t : Int) : Int := a + divr ((b - a) * t) 1000
def blendL (l0 l1 : Nat → SpotD) (t : Int) : Nat → SpotD := fun q => ⟨betw (l0 q).f0 (l1 q).f0 t, betw (l0 q).f1 (l1 q).f1 t⟩
theorem betw_bd {a b t : Int} (h1 : -2000000 ≤ a) (h2 : a ≤ 2000000) (h3 : -2000000 ≤ b) (h4 : b ≤ 2000000) (h5 : 0 ≤ t) (h6 : t ≤ 1000) :
    (-4000000000 ≤ (b - a) * t ∧ (b - a) * t ≤ 4000000000) ∧ -4000000 ≤ divr ((b - a) * t) 1000 ∧ divr ((b - a) * t) 1000 ≤ 4000000 := by
  have k1 : (b - a) * t ≤ 4000000 * t := Int.mul_le_mul_of_nonneg_right (by omega) h5
  have k2 : -4000000 * t ≤ (b - a) * t := Int.mul_le_mul_of_nonneg_right (by omega) h5
  have k3 : -4000000000 ≤ (b - a) * t ∧ (b - a) * t ≤ 4000000000 := by omega
  exact ⟨k3, divr_in (by omega) (by omega) (by omega)⟩
theorem blk_news {w : World} {l : Nat → SpotD} {k g : Nat} {x y : Int} (hb : Blk w g 81 #[.int .i64 x, .int .i64 y]) (h : l k = ⟨x, y⟩) : ∀ j, j < 2 → w.cell? ⟨g, j, none⟩ = some (SpotC l (k * 2 + j)) := fun j hj => by
  rw [hb.cell]
  match j, hj with
  | 0, _ => rw [Nat.add_zero, SpotC0, h]; rfl
  | 1, _ => rw [SpotC1, h]; rfl
theorem makeSpot : Go.Ks.Make.MakeRun Tryd.prog 67 81 spotG aggC := by
  obtain ⟨i0, hi, hz0, hz1, hz2⟩ := info_parts Tryd.infoSpot
  rintro w u ⟨x, y, rfl⟩
  simp [go_sem, Instr.buildSlice, Go.Ks.Make.sl1, aggC]
def BlendOk (C0 R0 : Int) (n0 : Nat) (l0 : Nat → SpotD) (C1 R1 : Int) (n1 : Nat) (l1 : Nat → SpotD) (t : Int) : Prop := (MeshOk C0 R0 n0 l0 ∧ MeshOk C1 R1 n1 l1) ∧ inB t 0 1000 = true ∧ C0 = C1 ∧ R0 = R1
open Classical in
noncomputable def mBlendMeshesA (C0 R0 : Int) (n0 : Nat) (l0 : Nat → SpotD) (C1 R1 : Int) (n1 : Nat) (l1 : Nat → SpotD) (t : Int) : Int := if BlendOk C0 R0 n0 l0 C1 R1 n1 l1 t then C0 else 0
open Classical in
noncomputable def mBlendMeshesB (C0 R0 : Int) (n0 : Nat) (l0 : Nat → SpotD) (C1 R1 : Int) (n1 : Nat) (l1 : Nat → SpotD) (t : Int) : Int := if BlendOk C0 R0 n0 l0 C1 R1 n1 l1 t then R0 else 0
open Classical in
noncomputable def mBlendMeshesN (C0 R0 : Int) (n0 : Nat) (l0 : Nat → SpotD) (C1 R1 : Int) (n1 : Nat) (l1 : Nat → SpotD) (t : Int) : Nat := if BlendOk C0 R0 n0 l0 C1 R1 n1 l1 t then n0 else 0
def mBlendMeshesL (_C0 _R0 : Int) (_n0 : Nat) (l0 : Nat → SpotD) (_C1 _R1 : Int) (_n1 : Nat) (l1 : Nat → SpotD) (t : Int) : Nat → SpotD := blendL l0 l1 t
open Classical in
noncomputable def mBlendMeshesC (C0 R0 : Int) (n0 : Nat) (l0 : Nat → SpotD) (C1 R1 : Int) (n1 : Nat) (l1 : Nat → SpotD) (t : Int) : Int := if MeshOk C0 R0 n0 l0 ∧ MeshOk C1 R1 n1 l1 then (if inB t 0 1000 = true then (if C0 = C1 ∧ R0 = R1 then 0 else 7) else 2) else 1
section
variable {C0 R0 : Int} {n0 : Nat} {l0 : Nat → SpotD} {C1 R1 : Int} {n1 : Nat} {l1 : Nat → SpotD} {t : Int}
theorem mBlend_no (h : ¬ (MeshOk C0 R0 n0 l0 ∧ MeshOk C1 R1 n1 l1)) : mBlendMeshesA C0 R0 n0 l0 C1 R1 n1 l1 t = 0 ∧ mBlendMeshesB C0 R0 n0 l0 C1 R1 n1 l1 t = 0 ∧ mBlendMeshesN C0 R0 n0 l0 C1 R1 n1 l1 t = 0 ∧ mBlendMeshesC C0 R0 n0 l0 C1 R1 n1 l1 t = 1 := ⟨if_neg (fun hh => h hh.1), if_neg (fun hh => h hh.1), if_neg (fun hh => h hh.1), if_neg h⟩
theorem mBlend_out (h : MeshOk C0 R0 n0 l0 ∧ MeshOk C1 R1 n1 l1) (h' : inB t 0 1000 = false) : mBlendMeshesA C0 R0 n0 l0 C1 R1 n1 l1 t = 0 ∧ mBlendMeshesB C0 R0 n0 l0 C1 R1 n1 l1 t = 0 ∧ mBlendMeshesN C0 R0 n0 l0 C1 R1 n1 l1 t = 0 ∧ mBlendMeshesC C0 R0 n0 l0 C1 R1 n1 l1 t = 2 := by
  refine ⟨if_neg (fun hh => ?_), if_neg (fun hh => ?_), if_neg (fun hh => ?_), ?_⟩
  · rw [hh.2.1] at h'; cases h'
  · rw [hh.2.1] at h'; cases h'
  · rw [hh.2.1] at h'; cases h'
  · unfold mBlendMeshesC
    rw [if_pos h, if_neg (by rw [h']; decide)]
theorem mBlend_apart (h : MeshOk C0 R0 n0 l0 ∧ MeshOk C1 R1 n1 l1) (h' : inB t 0 1000 = true) (h2 : ¬ (C0 = C1 ∧ R0 = R1)) : mBlendMeshesA C0 R0 n0 l0 C1 R1 n1 l1 t = 0 ∧ mBlendMeshesB C0 R0 n0 l0 C1 R1 n1 l1 t = 0 ∧ mBlendMeshesN C0 R0 n0 l0 C1 R1 n1 l1 t = 0 ∧ mBlendMeshesC C0 R0 n0 l0 C1 R1 n1 l1 t = 7 := by
  refine ⟨if_neg (fun hh => h2 hh.2.2), if_neg (fun hh => h2 hh.2.2), if_neg (fun hh => h2 hh.2.2), ?_⟩
  unfold mBlendMeshesC
  rw [if_pos h, if_pos h', if_neg h2]
theorem mBlend_ok (h : BlendOk C0 R0 n0 l0 C1 R1 n1 l1 t) : mBlendMeshesA C0 R0 n0 l0 C1 R1 n1 l1 t = C0 ∧ mBlendMeshesB C0 R0 n0 l0 C1 R1 n1 l1 t = R0 ∧ mBlendMeshesN C0 R0 n0 l0 C1 R1 n1 l1 t = n0 ∧ mBlendMeshesC C0 R0 n0 l0 C1 R1 n1 l1 t = 0 := by
  refine ⟨if_pos h, if_pos h, if_pos h, ?_⟩
  unfold mBlendMeshesC
  rw [if_pos h.1, if_pos h.2.1, if_pos h.2.2]
end
theorem mBlendMeshes_len (C0 R0 : Int) (n0 : Nat) (l0 : Nat → SpotD) (C1 R1 : Int) (n1 : Nat) (l1 : Nat → SpotD) (t : Int) : mBlendMeshesN C0 R0 n0 l0 C1 R1 n1 l1 t ≤ 1048576 := by
  unfold mBlendMeshesN
  split
  · rename_i h
    have := mesh_len h.1.1
    omega
  · omega
/-- element k of a row of spots is stored anew, cell by cell -/
theorem spot_put2 {n k : Nat} {h : Nat → Value} {L L' : Nat → SpotD} {x y : Int} (hh : ∀ j, j < n * 2 → h j = SpotC L j) (hL : ∀ q, q ≠ k → L' q = L q) (hk : L' k = ⟨x, y⟩) : ∀ j, j < n * 2 → (if j = k * 2 + 1 then .int .i64 y else if j = k * 2 then .int .i64 x else h j) = SpotC L' j := fun j hj => by
  by_cases e1 : j = k * 2 + 1
  · rw [if_pos e1, e1, SpotC1, hk]
  · rw [if_neg e1]
    by_cases e0 : j = k * 2
    · rw [if_pos e0, e0, SpotC0, hk]
    · rw [if_neg e0, hh j hj]
      have hq : j / 2 ≠ k := by omega
      have e := hL _ hq
      unfold SpotC rc SpotF
      split <;> rw [e]
set_option maxRecDepth 100000 in
set_option maxHeartbeats 4000000 in
theorem implBlendMeshes_any (C0 R0 : Int) (A0 : Option Addr) (n0 c0 : Nat) (l0 : Nat → SpotD) (C1 R1 : Int) (A1 : Option Addr) (n1 c1 : Nat) (l1 : Nat → SpotD) (t : Int) (w : World) (m0 : n0 ≤ 1048576) (s0 : Sl w A0 (n0 * 2) (SpotC l0)) (_g0 : ∀ k, k < n0 → SpotOk (l0 k)) (m1 : n1 ≤ 1048576) (s1 : Sl w A1 (n1 * 2) (SpotC l1)) (_g1 : ∀ k, k < n1 → SpotOk (l1 k)) (_ht : -9223372036854775808 ≤ t ∧ t ≤ 9223372036854775807) :
    Calls Tryd.prog 47 #[.agg #[.int .i64 C0, .int .i64 R0, .slice A0 n0 c0], .agg #[.int .i64 C1, .int .i64 R1, .slice A1 n1 c1], .int .i64 t] w fun e w' => RetM w w' (mBlendMeshesA C0 R0 n0 l0 C1 R1 n1 l1 t) (mBlendMeshesB C0 R0 n0 l0 C1 R1 n1 l1 t) (mBlendMeshesN C0 R0 n0 l0 C1 R1 n1 l1 t) (SpotC (mBlendMeshesL C0 R0 n0 l0 C1 R1 n1 l1 t)) (mBlendMeshesC C0 R0 n0 l0 C1 R1 n1 l1 t) e ∧ Below w.heap.size w w' := by
  obtain ⟨i0, hi, hz0, hz1, hz2⟩ := info_parts Tryd.infoSpot
  have D0 := Below.refl w.heap.size w
  go_enter Tryd.func47, Tryd.ntmps47
  go_wp2_with fail
  generalize hW : World.alloc (World.alloc (World.alloc w _) _) _ = w1
  have D1 : Below w.heap.size w w1 := by rw [← hW]; repeat (first | with_reducible exact Below.refl _ _ | with_reducible assumption | with_reducible refine Below.setCell ?_ (by first | omega | (simp <;> omega)) _ | with_reducible refine Below.alloc ?_ (by first | omega | (simp <;> omega)) _ | with_reducible refine Below.drew ?_)
  have p0 : Blk w1 w.heap.size 69 #[.int .i64 C0, .int .i64 R0, .slice A0 n0 c0] := by rw [← hW]; exact ((Blk.new w _ _).alloc _).alloc _
  have p1 : Blk w1 (w.heap.size + 1) 69 #[.int .i64 C1, .int .i64 R1, .slice A1 n1 c1] := by
    have h := (Blk.new (w.alloc (.cells #[.int .i64 C0, .int .i64 R0, .slice A0 n0 c0] 69)) 69 #[.int .i64 C1, .int .i64 R1, .slice A1 n1 c1]).alloc (.cells #[.int .i64 0, .int .i64 0, .slice none 0 0] 69)
    rw [hW] at h
    simpa using h
  have pz : Blk w1 (w.heap.size + 1 + 1) 69 #[.int .i64 0, .int .i64 0, .slice none 0 0] := by
    have h := Blk.new ((w.alloc (.cells #[.int .i64 C0, .int .i64 R0, .slice A0 n0 c0] 69)).alloc (.cells #[.int .i64 C1, .int .i64 R1, .slice A1 n1 c1] 69)) 69 #[.int .i64 0, .int .i64 0, .slice none 0 0]
    rw [hW] at h
    simpa using h
  clear hW
  have f00 := p0.cell 0
  have f01 := p0.cell 1
  have f02 := p0.cell 2
  have f10 := p1.cell 0
  have f11 := p1.cell 1
  have f12 := p1.cell 2
  have z0 := pz.cell 0
  have z1 := pz.cell 1
  have z2 := pz.cell 2
  simp at f00 f01 f02 f10 f11 f12 z0 z1 z2
  have lf0 := p0.lt
  have lf1 := p1.lt
  have lz := pz.lt
  try go_wp2_with fail
  refine (validMesh_any C0 R0 _ n0 c0 l0 _ m0 (s0.below D1)).mono ?_
  rintro e w2 ⟨rfl, H2⟩
  have D2 := D1.trans (H2.mono D1.size)
  have s_2 := H2.size
  replace p0 := p0.below H2 p0.lt
  replace p1 := p1.below H2 p1.lt
  replace pz := pz.below H2 pz.lt
  clear f00 f01 f02 f10 f11 f12 z0 z1 z2 lf0 lf1 lz
  have f00 := p0.cell 0
  have f01 := p0.cell 1
  have f02 := p0.cell 2
  have f10 := p1.cell 0
  have f11 := p1.cell 1
  have f12 := p1.cell 2
  have z0 := pz.cell 0
  have z1 := pz.cell 1
  have z2 := pz.cell 2
  simp at f00 f01 f02 f10 f11 f12 z0 z1 z2
  have lf0 := p0.lt
  have lf1 := p1.lt
  have lz := pz.lt
  cases ok0 : meshOk C0 R0 n0 l0
  · have E := Lib.hid (mBlend_no (C0 := C0) (R0 := R0) (n0 := n0) (l0 := l0) (C1 := C1) (R1 := R1) (n1 := n1) (l1 := l1) (t := t) (fun h => by rw [meshOk_yes h.1] at ok0; cases ok0))
    have gz0 := pz.frozen 0
    have gz1 := pz.frozen 1
    have gz2 := pz.frozen 2
    go_wp2_with fail
    refine bodyPost_ret (v := .tuple #[.agg #[.int .i64 0, .int .i64 0, .slice none 0 0], .int .i64 1]) (by simp [results, Tryd.results47, go_sem, z0, z1, z2]) rfl ⟨retM E.out.1.symm E.out.2.1.symm E.out.2.2.1.symm E.out.2.2.2.symm (Own.nil _ _ _ _ _) (fun _ => rfl), ?_⟩
    repeat (first | with_reducible exact Below.refl _ _ | with_reducible assumption | with_reducible refine Below.setCell ?_ (by first | omega | (simp <;> omega)) _ | with_reducible refine Below.alloc ?_ (by first | omega | (simp <;> omega)) _ | with_reducible refine Below.drew ?_)
  go_wp2_with fail
  refine (validMesh_any C1 R1 _ n1 c1 l1 _ m1 (s1.below D2)).mono ?_
  rintro e w3 ⟨rfl, H3⟩
  have D3 := D2.trans (H3.mono D2.size)
  have s_3 := H3.size
  replace p0 := p0.below H3 p0.lt
  replace p1 := p1.below H3 p1.lt
  replace pz := pz.below H3 pz.lt
  clear f00 f01 f02 f10 f11 f12 z0 z1 z2 lf0 lf1 lz
  have f00 := p0.cell 0
  have f01 := p0.cell 1
  have f02 := p0.cell 2
  have f10 := p1.cell 0
  have f11 := p1.cell 1
  have f12 := p1.cell 2
  have z0 := pz.cell 0
  have z1 := pz.cell 1
  have z2 := pz.cell 2
  simp at f00 f01 f02 f10 f11 f12 z0 z1 z2
  have lf0 := p0.lt
  have lf1 := p1.lt
  have lz := pz.lt
  cases ok1 : meshOk C1 R1 n1 l1
  · have E := Lib.hid (mBlend_no (C0 := C0) (R0 := R0) (n0 := n0) (l0 := l0) (C1 := C1) (R1 := R1) (n1 := n1) (l1 := l1) (t := t) (fun h => by rw [meshOk_yes h.2] at ok1; cases ok1))
    have gz0 := pz.frozen 0
    have gz1 := pz.frozen 1
    have gz2 := pz.frozen 2
    go_wp2_with fail
    refine bodyPost_ret (v := .tuple #[.agg #[.int .i64 0, .int .i64 0, .slice none 0 0], .int .i64 1]) (by simp [results, Tryd.results47, go_sem, z0, z1, z2]) rfl ⟨retM E.out.1.symm E.out.2.1.symm E.out.2.2.1.symm E.out.2.2.2.symm (Own.nil _ _ _ _ _) (fun _ => rfl), ?_⟩
    repeat (first | with_reducible exact Below.refl _ _ | with_reducible assumption | with_reducible refine Below.setCell ?_ (by first | omega | (simp <;> omega)) _ | with_reducible refine Below.alloc ?_ (by first | omega | (simp <;> omega)) _ | with_reducible refine Below.drew ?_)
  have OK := Lib.hid (And.intro (meshOk_of ok0) (meshOk_of ok1))
  clear ok0 ok1
  cases it : inB t 0 1000
  · have E := Lib.hid (mBlend_out OK.out it)
    go_wp2_with fail
    refine (within_eq _ _ _ _).mono ?_
    rintro e w4 ⟨rfl, rfl⟩
    have gz0 := pz.frozen 0
    have gz1 := pz.frozen 1
    have gz2 := pz.frozen 2
    go_wp2_with fail
    refine bodyPost_ret (v := .tuple #[.agg #[.int .i64 0, .int .i64 0, .slice none 0 0], .int .i64 2]) (by simp [results, Tryd.results47, go_sem, z0, z1, z2]) rfl ⟨retM E.out.1.symm E.out.2.1.symm E.out.2.2.1.symm E.out.2.2.2.symm (Own.nil _ _ _ _ _) (fun _ => rfl), ?_⟩
    repeat (first | with_reducible exact Below.refl _ _ | with_reducible assumption | with_reducible refine Below.setCell ?_ (by first | omega | (simp <;> omega)) _ | with_reducible refine Below.alloc ?_ (by first | omega | (simp <;> omega)) _ | with_reducible refine Below.drew ?_)
  have IT := Lib.hid it
  have ht := inB_iff.1 it
  obtain ⟨ht1, ht2⟩ := ht
  go_wp2_with fail
  refine (within_eq _ _ _ _).mono ?_
  rintro e w4 ⟨rfl, rfl⟩
  by_cases hC : C0 = C1
  case neg =>
    have E := Lib.hid (mBlend_apart OK.out IT.out (fun h => hC h.1))
    have b1 : (C0 == C1) = false := by simpa using hC
    have b2 : (C0 != C1) = true := by simpa using hC
    have gz0 := pz.frozen 0
    have gz1 := pz.frozen 1
    have gz2 := pz.frozen 2
    go_wp2_with fail
    refine bodyPost_ret (v := .tuple #[.agg #[.int .i64 0, .int .i64 0, .slice none 0 0], .int .i64 7]) (by simp [results, Tryd.results47, go_sem, z0, z1, z2]) rfl ⟨retM E.out.1.symm E.out.2.1.symm E.out.2.2.1.symm E.out.2.2.2.symm (Own.nil _ _ _ _ _) (fun _ => rfl), ?_⟩
    repeat (first | with_reducible exact Below.refl _ _ | with_reducible assumption | with_reducible refine Below.setCell ?_ (by first | omega | (simp <;> omega)) _ | with_reducible refine Below.alloc ?_ (by first | omega | (simp <;> omega)) _ | with_reducible refine Below.drew ?_)
  by_cases hR : R0 = R1
  case neg =>
    have E := Lib.hid (mBlend_apart OK.out IT.out (fun h => hR h.2))
    have b1 : (R0 == R1) = false := by simpa using hR
    have b2 : (R0 != R1) = true := by simpa using hR
    subst hC
    have gz0 := pz.frozen 0
    have gz1 := pz.frozen 1
    have gz2 := pz.frozen 2
    go_wp2_with fail
    refine bodyPost_ret (v := .tuple #[.agg #[.int .i64 0, .int .i64 0, .slice none 0 0], .int .i64 7]) (by simp [results, Tryd.results47, go_sem, z0, z1, z2]) rfl ⟨retM E.out.1.symm E.out.2.1.symm E.out.2.2.1.symm E.out.2.2.2.symm (Own.nil _ _ _ _ _) (fun _ => rfl), ?_⟩
    repeat (first | with_reducible exact Below.refl _ _ | with_reducible assumption | with_reducible refine Below.setCell ?_ (by first | omega | (simp <;> omega)) _ | with_reducible refine Below.alloc ?_ (by first | omega | (simp <;> omega)) _ | with_reducible refine Below.drew ?_)
  subst hC hR
  have E := Lib.hid (mBlend_ok ⟨OK.out, IT.out, rfl, rfl⟩)
  obtain ⟨⟨⟨hC1, hC2⟩, ⟨hR1, hR2⟩, hn0, hpl0⟩, ⟨_, _, hn1, hpl1⟩⟩ := OK.out
  have hnn : n1 = n0 := by omega
  subst hnn
  have HPL0 := Lib.hid hpl0
  have HPL1 := Lib.hid hpl1
  have HN := Lib.hid hn0
  have n81 := mesh_len OK.out.1
  clear hpl0 hpl1 hn0 hn1
  obtain ⟨c, rfl⟩ := Int.eq_ofNat_of_zero_le (by omega : 0 ≤ C0)
  obtain ⟨r, rfl⟩ := Int.eq_ofNat_of_zero_le (by omega : 0 ≤ R0)
  have npos : 0 < n1 := by
    have h : ((n1 : Nat) : Int) = ((c * r : Nat) : Int) := by rw [HN.out, Int.natCast_mul]
    have h2 : 0 < c * r := Nat.mul_pos (by omega) (by omega)
    omega
  go_wp2_with fail
  clear it z0 z1 z2 lz
  have hs3 := s0.below D3
  go_cut [8] (fun s wr => ∃ (Bo : Nat) (A' : Option Addr) (c' : Nat), s = .pointer (some ⟨Bo, 0, none⟩) ∧ Blk wr Bo 69 #[.int .i64 (c : Int), .int .i64 (r : Int), .slice A' n1 c'] ∧ Own wr w3.heap.size 81 2 A' n1 (SpotC l0) ∧ (A' = none → c' = 0) ∧ w3.heap.size ≤ Bo ∧ Below w3.heap.size w3 wr)
  case first =>
    have ks : ∀ w' : World, Below w3.heap.size w3 w' → w'.cell? ⟨w.heap.size, 0, none⟩ = some (.int .i64 (c : Int)) ∧ w'.cell? ⟨w.heap.size, 1, none⟩ = some (.int .i64 (r : Int)) ∧ w'.cell? ⟨w.heap.size, 2, none⟩ = some (.slice A0 n1 c0) := fun w' h => ⟨(p0.below h p0.lt).cell 0, (p0.below h p0.lt).cell 1, (p0.below h p0.lt).cell 2⟩
    have KS := Lib.hid ks
    clear ks
    go_region_held3 (fun w' => w'.cell? ⟨w.heap.size, 0, none⟩ = some (.int .i64 (c : Int)) ∧ w'.cell? ⟨w.heap.size, 1, none⟩ = some (.int .i64 (r : Int)) ∧ w'.cell? ⟨w.heap.size, 2, none⟩ = some (.slice A0 n1 c0))
      (exact KS.out _ (by repeat (first | with_reducible exact Below.refl _ _ | with_reducible assumption | with_reducible refine Below.setCell ?_ (by first | omega | (simp <;> omega)) _ | with_reducible refine Below.alloc ?_ (by first | omega | (simp <;> omega)) _ | with_reducible refine Below.drew ?_)))
      (first
        | (go_at_call 101; refine (cloneSpot_any A0 n1 c0 l0 _ m0 npos (hs3.below (by repeat (first | with_reducible exact Below.refl _ _ | with_reducible assumption | with_reducible refine Below.setCell ?_ (by first | omega | (simp <;> omega)) _ | with_reducible refine Below.alloc ?_ (by first | omega | (simp <;> omega)) _ | with_reducible refine Below.drew ?_)))).mono ?_; rintro e vX ⟨⟨A', c', rfl, ox, hz⟩, FX⟩; have TX : Below w3.heap.size w3 vX := below_then (by repeat (first | with_reducible exact Below.refl _ _ | with_reducible assumption | with_reducible refine Below.setCell ?_ (by first | omega | (simp <;> omega)) _ | with_reducible refine Below.alloc ?_ (by first | omega | (simp <;> omega)) _ | with_reducible refine Below.drew ?_)) FX; have sX := TX.size; have oy := ox.mono (base' := w3.heap.size) (by simp); (first | ((first | (with_reducible have zx := made_step FX) | (with_reducible have zx := made_step' FX)); have zf0 := zx.cell 0; have zf1 := zx.cell 1; have zf2 := zx.cell 2; have zg0 := zx.frozen 0; have zg1 := zx.frozen 1; have zg2 := zx.frozen 2; have zl := zx.lt) | skip)))
    all_goals (try go_wp2_with fail)
    all_goals go_meet
    · exact ⟨_, A', c', rfl, Blk.new _ _ _, oy.below (by repeat (first | with_reducible exact Below.refl _ _ | with_reducible assumption | with_reducible refine Below.setCell ?_ (by first | omega | (simp <;> omega)) _ | with_reducible refine Below.alloc ?_ (by first | omega | (simp <;> omega)) _ | with_reducible refine Below.drew ?_)), hz, by omega, by repeat (first | with_reducible exact Below.refl _ _ | with_reducible assumption | with_reducible refine Below.setCell ?_ (by first | omega | (simp <;> omega)) _ | with_reducible refine Below.alloc ?_ (by first | omega | (simp <;> omega)) _ | with_reducible refine Below.drew ?_)⟩
    · exact ⟨_, A', c', rfl, ((zx.set_ 0 _).set_ 1 _).set_ 2 _, ((oy.set zx (by decide) 0 _).set (zx.set_ 0 _) (by decide) 1 _).set ((zx.set_ 0 _).set_ 1 _) (by decide) 2 _, hz, Nat.le_refl _, by repeat (first | with_reducible exact Below.refl _ _ | with_reducible assumption | with_reducible refine Below.setCell ?_ (by first | omega | (simp <;> omega)) _ | with_reducible refine Below.alloc ?_ (by first | omega | (simp <;> omega)) _ | with_reducible refine Below.drew ?_)⟩
  obtain ⟨Bo, A', c', rfl, o0, own0, hz, hBo, hb4⟩ := hcut
  obtain ⟨w4, rfl⟩ : ∃ q : World, q = wc := ⟨_, rfl⟩
  obtain ⟨Bs, ms, h0, rfl, hBs, ho0, hms, hh0⟩ := Own.some_blk own0 npos
  have hne : Bo ≠ Bs := fun e => by
    subst e
    unfold Blk at o0 ho0
    rw [o0] at ho0
    injection ho0 with ho0
    injection ho0 with _ ho0 _
    exact absurd ho0 (by decide)
  clear f00 f01 f02 f10 f11 f12 lf0 lf1 hz own0
  have r1 := p1.below hb4 p1.lt
  have b2 := r1.cell 2
  simp at b2
  have lb := r1.lt
  have npos' : 0 < n1 := npos
  go_wp2_with fail
  clear b2 lb r1
  go_loopw [49] (fun a wr => ∃ (j : Nat) (h : Nat → Value), j ≤ n1 ∧ a = .int .i64 (j : Int) ∧ Blk wr Bs 81 (arr ms h) ∧ (∀ x, x < n1 * 2 → h x = SpotC (partL (blendL l0 l1 t) l0 j) x) ∧ Blk wr Bo 69 #[.int .i64 (c : Int), .int .i64 (r : Int), .slice (some ⟨Bs, 0, none⟩) n1 c'] ∧ Below w3.heap.size w3 wr) (fun a _ => (n1 - (intOf a).toNat))
  case atStart => exact ⟨0, h0, by omega, rfl, ho0, fun x hx => (hh0 x hx).trans (partL_none x).symm, o0, hb4⟩
  case round =>
    obtain ⟨j, h, hj, rfl, hblk, hh, ho, hbl⟩ := hrel
    have qz := pz.below hbl pz.lt
    have hsz := hbl.size
    have HH := Lib.hid hh
    clear hh
    by_cases hlt : j < n1
    · have hlt' : (j : Int) < (n1 : Int) := by omega
      obtain ⟨b', off', rfl, hb', hc'⟩ := s1 (by omega)
      have hbw := D3.trans (hbl.mono D3.size)
      have lb' : b' < wr.heap.size := by have := hbw.size; omega
      have e10 : wr.cell? ⟨b', off' + j * 2, none⟩ = some (.int .i64 (l1 j).f0) := by rw [hbw.cell (by exact hb'), hc' _ (by omega), SpotC0]
      have e11 : wr.cell? ⟨b', off' + j * 2 + 1, none⟩ = some (.int .i64 (l1 j).f1) := by rw [hbw.cell (by exact hb'), Nat.add_assoc, hc' _ (by omega), SpotC1]
      clear hc'
      have g0 := plane_iff.1 (HPL0.out j hlt)
      have g1 := plane_iff.1 (HPL1.out j hlt)
      obtain ⟨⟨g01, g02⟩, g03, g04⟩ := g0
      obtain ⟨⟨g11, g12⟩, g13, g14⟩ := g1
      have ka := betw_bd g01 g02 g11 g12 ht1 ht2
      have kb := betw_bd g03 g04 g13 g14 ht1 ht2
      obtain ⟨⟨ka1, ka2⟩, ka3, ka4⟩ := ka
      obtain ⟨⟨kb1, kb2⟩, kb3, kb4⟩ := kb
      have hx0 : h (j * 2) = .int .i64 (l0 j).f0 := by
        rw [HH.out _ (by omega), SpotC0]
        unfold partL
        rw [if_neg (by omega)]
      have hx1 : h (j * 2 + 1) = .int .i64 (l0 j).f1 := by
        rw [HH.out _ (by omega), SpotC1]
        unfold partL
        rw [if_neg (by omega)]
      have o2 := ho.cell 2
      simp at o2
      have lo := ho.lt
      have lbs := hblk.lt
      go_wp2_with fail
      generalize hW : World.alloc wr _ = w5
      have hb5 : Below wr.heap.size wr w5 := by rw [← hW]; repeat (first | with_reducible exact Below.refl _ _ | with_reducible assumption | with_reducible refine Below.setCell ?_ (by first | omega | (simp <;> omega)) _ | with_reducible refine Below.alloc ?_ (by first | omega | (simp <;> omega)) _ | with_reducible refine Below.drew ?_)
      have zq : Blk w5 wr.heap.size 81 #[.int .i64 (l1 j).f0, .int .i64 (l1 j).f1] := by rw [← hW]; exact Blk.new wr _ _
      clear hW e10 e11 o2 lo
      have hblk5 := hblk.below hb5 hblk.lt
      have ho5 := ho.below hb5 ho.lt
      have hbl5 := hbl.trans (hb5.mono hsz)
      have hsz5 := hbl5.size
      have x0 := zq.cell 0
      have x1 := zq.cell 1
      simp at x0 x1
      have lx := zq.lt
      have lbs5 := hblk5.lt
      have c0x : w5.cell? ⟨Bs, j * 2, none⟩ = some (.int .i64 (l0 j).f0) := by rw [hblk5.cell, arr_get _ _ _ (by omega), hx0]
      refine wp_region_ext_tail 0 17 (by kernel_rfl) (by kernel_rfl) (fun d _ _ _ _ h => by cases d <;> exact h) ?_
      simp only [List.take_succ_cons, List.take_zero, List.drop_succ_cons, List.drop_zero]
      repeat (go_big_quiet_step ((go_at_call 90; exact quiet_ext (nearest_any _ _ (by omega) (by omega) (by omega) (by omega) _))))
      refine wpQuiet_nil ?_
      intro e1
      have hb6 := e1.below
      have hblk6 := hblk5.below hb6 hblk5.lt
      have ho6 := ho5.below hb6 ho5.lt
      have zq6 := zq.below hb6 zq.lt
      have hbl6 := hbl5.trans (hb6.mono hsz5)
      have gf0 := hblk6.frozen (j * 2)
      have l6 := hblk6.lt
      have c6 : e1.val.cell? ⟨Bs, j * 2, none⟩ = some (.int .i64 (l0 j).f0) := by rw [hblk6.cell, arr_get _ _ _ (by omega), hx0]
      clear x0 x1 lx c0x lbs5
      go_wp2_with fail
      generalize hW : World.setCell e1.val _ _ = w7
      have hblk7 : Blk w7 Bs 81 (arr ms (fun x => if x = j * 2 then .int .i64 (betw (l0 j).f0 (l1 j).f0 t) else h x)) := by
        rw [← hW]
        have q := hblk6.set_ (j * 2) (.int .i64 (betw (l0 j).f0 (l1 j).f0 t))
        rw [arr_set] at q
        exact q
      have ho7 : Blk w7 Bo 69 #[.int .i64 (c : Int), .int .i64 (r : Int), .slice (some ⟨Bs, 0, none⟩) n1 c'] := by rw [← hW]; exact ho6.far (p := ⟨Bs, j * 2, none⟩) hne _
      have zq7 : Blk w7 wr.heap.size 81 #[.int .i64 (l1 j).f0, .int .i64 (l1 j).f1] := by rw [← hW]; exact zq6.far (p := ⟨Bs, j * 2, none⟩) (by simp; omega) _
      have hbl7 : Below w3.heap.size w3 w7 := by rw [← hW]; exact hbl6.setCell (p := ⟨Bs, j * 2, none⟩) hBs _
      clear hW gf0 c6 l6
      have hsz7 := hbl7.size
      have x0 := zq7.cell 0
      have x1 := zq7.cell 1
      simp at x0 x1
      have lx := zq7.lt
      have lbs7 := hblk7.lt
      have c1x : w7.cell? ⟨Bs, j * 2 + 1, none⟩ = some (.int .i64 (l0 j).f1) := by rw [hblk7.cell, arr_get _ _ _ (by omega), if_neg (by omega), hx1]
      refine wp_region_ext_tail 0 17 (by kernel_rfl) (by kernel_rfl) (fun d _ _ _ _ h => by cases d <;> exact h) ?_
      simp only [List.take_succ_cons, List.take_zero, List.drop_succ_cons, List.drop_zero]
      repeat (go_big_quiet_step ((go_at_call 90; exact quiet_ext (nearest_any _ _ (by omega) (by omega) (by omega) (by omega) _))))
      refine wpQuiet_nil ?_
      intro e2
      have hb8 := e2.below
      have hblk8 := hblk7.below hb8 hblk7.lt
      have ho8 := ho7.below hb8 ho7.lt
      have hbl8 := hbl7.trans (hb8.mono hsz7)
      have gf1 := hblk8.frozen (j * 2 + 1)
      have l8 := hblk8.lt
      have c8 : e2.val.cell? ⟨Bs, j * 2 + 1, none⟩ = some (.int .i64 (l0 j).f1) := by rw [hblk8.cell, arr_get _ _ _ (by omega), if_neg (by omega), hx1]
      clear x0 x1 lx c1x lbs7
      have hfin := spot_put2 (k := j) (L' := partL (blendL l0 l1 t) l0 (j + 1)) (x := betw (l0 j).f0 (l1 j).f0 t) (y := betw (l0 j).f1 (l1 j).f1 t) HH.out partL_step (partL_at.trans rfl)
      have HFIN := Lib.hid hfin
      clear hfin
      go_wp2_with fail
      go_roundw
      case rel =>
        refine ⟨j + 1, _, by omega, by go_num, ?_, HFIN.out, ho8.far (p := ⟨Bs, j * 2 + 1, none⟩) hne _, hbl8.setCell (p := ⟨Bs, j * 2 + 1, none⟩) hBs _⟩
        have q := hblk8.set_ (j * 2 + 1) (.int .i64 (betw (l0 j).f1 (l1 j).f1 t))
        rw [arr_set] at q
        exact q
      case measure => simp [intOf]; omega
    · have hN2 : j = n1 := by omega
      have HN2 := Lib.hid hN2
      clear hN2
      have hnlt : ¬ (j : Int) < (n1 : Int) := by omega
      have hown : Own wr w3.heap.size 81 2 (some ⟨Bs, 0, none⟩) n1 (SpotC (blendL l0 l1 t)) := Own.blk hblk hBs hms (fun x hx => (HH.out x hx).trans (by rw [HN2.out]; exact partL_done hx))
      have z0 := qz.cell 0
      have z1 := qz.cell 1
      have z2 := qz.cell 2
      have o0 := ho.cell 0
      have o1 := ho.cell 1
      have o2 := ho.cell 2
      simp at z0 z1 z2 o0 o1 o2
      have lo := ho.lt
      have lz := qz.lt
      have g0 := qz.frozen 0
      have g1 := qz.frozen 1
      have g2 := qz.frozen 2
      have hbw := D3.trans (hbl.mono D3.size)
      have hw3 := D3.size
      have ho2 := hown.mono (base' := w.heap.size) (by omega)
      go_wp2_with fail
      refine bodyPost_ret (v := .tuple #[.agg #[.int .i64 (c : Int), .int .i64 (r : Int), .slice (some ⟨Bs, 0, none⟩) n1 c'], .int .i64 0]) (by simp [results, Tryd.results47, go_sem, z0, z1, z2]) rfl ⟨retM E.out.1.symm E.out.2.1.symm E.out.2.2.1.symm E.out.2.2.2.symm ?_ (fun h => by cases h), ?_⟩
      · exact ((ho2.set qz (by decide) 0 _).set (qz.set_ 0 _) (by decide) 1 _).set ((qz.set_ 0 _).set_ 1 _) (by decide) 2 _
      · repeat (first | with_reducible exact Below.refl _ _ | with_reducible assumption | with_reducible refine Below.setCell ?_ (by first | omega | (simp <;> omega)) _ | with_reducible refine Below.alloc ?_ (by first | omega | (simp <;> omega)) _ | with_reducible refine Below.drew ?_)
end Go.Proofs.YthjllledhcfnhaaDoor
