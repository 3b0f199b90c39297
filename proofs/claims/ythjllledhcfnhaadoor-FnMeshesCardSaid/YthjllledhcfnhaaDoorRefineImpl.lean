/- RefineMesh of the program. Conditions: the slice reads as spots. -/
import Derived.LoopN
import Derived.Test.YthjllledhcfnhaaDoorMirror
import Derived.Test.YthjllledhcfnhaaDoorWarpImpl
import Derived.Test.YthjllledhcfnhaaDoorBlend
namespace Go.Proofs.YthjllledhcfnhaaDoor
open Go.RowKit Go.Lib Go.Ks

/-- the index of the mesh's point at the upper left of point (x, y) of the refined one -/
def refK (c y x : Nat) : Nat := y / 2 * c + x / 2
def refS (c : Nat) (f : Nat → Int) (y x : Nat) : Int := f (refK c y x) + f (refK c y x + x % 2) + f (refK c y x + y % 2 * c) + f (refK c y x + y % 2 * c + x % 2)
def refL (c : Nat) (l : Nat → SpotD) : Nat → SpotD := fun q => ⟨divr (refS c (fun k => (l k).f0) (q / (2 * c - 1)) (q % (2 * c - 1))) 4, divr (refS c (fun k => (l k).f1) (q / (2 * c - 1)) (q % (2 * c - 1))) 4⟩
theorem refL_at {c y x : Nat} {l : Nat → SpotD} (h : x < 2 * c - 1) : refL c l (y * (2 * c - 1) + x) = ⟨divr (refS c (fun k => (l k).f0) y x) 4, divr (refS c (fun k => (l k).f1) y x) 4⟩ := by
  unfold refL
  have e1 : (y * (2 * c - 1) + x) / (2 * c - 1) = y := by rw [Nat.mul_comm, Nat.mul_add_div (by omega), Nat.div_eq_of_lt h, Nat.add_zero]
  have e2 : (y * (2 * c - 1) + x) % (2 * c - 1) = x := by rw [Nat.mul_comm, Nat.mul_add_mod, Nat.mod_eq_of_lt h]
  rw [e1, e2]
/-- the four points lie in the mesh -/
theorem refK_in {c r y x n : Nat} (hc : 2 ≤ c) (hn : n = r * c) (hy : y < 2 * r - 1) (hx : x < 2 * c - 1) : refK c y x + y % 2 * c + x % 2 < n := by
  unfold refK
  have h1 : x / 2 + x % 2 < c := by omega
  have h2 : y / 2 + y % 2 + 1 ≤ r := by omega
  have h3 : (y / 2 + y % 2 + 1) * c ≤ r * c := Nat.mul_le_mul_right c h2
  rw [Nat.add_mul, Nat.add_mul, Nat.one_mul] at h3
  omega
def RefineOk (C R : Int) (n : Nat) (l : Nat → SpotD) : Prop := MeshOk C R n l ∧ 2 * C - 1 ≤ 9 ∧ 2 * R - 1 ≤ 9
open Classical in
noncomputable def mRefineMeshA (C R : Int) (n : Nat) (l : Nat → SpotD) : Int := if RefineOk C R n l then 2 * C - 1 else 0
open Classical in
noncomputable def mRefineMeshB (C R : Int) (n : Nat) (l : Nat → SpotD) : Int := if RefineOk C R n l then 2 * R - 1 else 0
open Classical in
noncomputable def mRefineMeshN (C R : Int) (n : Nat) (l : Nat → SpotD) : Nat := if RefineOk C R n l then (2 * R.toNat - 1) * (2 * C.toNat - 1) else 0
def mRefineMeshL (C _R : Int) (_n : Nat) (l : Nat → SpotD) : Nat → SpotD := refL C.toNat l
open Classical in
noncomputable def mRefineMeshC (C R : Int) (n : Nat) (l : Nat → SpotD) : Int := if MeshOk C R n l then (if 2 * C - 1 ≤ 9 ∧ 2 * R - 1 ≤ 9 then 0 else 5) else 1
section
variable {C R : Int} {n : Nat} {l : Nat → SpotD}
theorem mRefine_no (h : ¬ MeshOk C R n l) : mRefineMeshA C R n l = 0 ∧ mRefineMeshB C R n l = 0 ∧ mRefineMeshN C R n l = 0 ∧ mRefineMeshC C R n l = 1 := ⟨if_neg (fun hh => h hh.1), if_neg (fun hh => h hh.1), if_neg (fun hh => h hh.1), if_neg h⟩
theorem mRefine_big (h : MeshOk C R n l) (h' : ¬ (2 * C - 1 ≤ 9 ∧ 2 * R - 1 ≤ 9)) : mRefineMeshA C R n l = 0 ∧ mRefineMeshB C R n l = 0 ∧ mRefineMeshN C R n l = 0 ∧ mRefineMeshC C R n l = 5 := by
  refine ⟨if_neg (fun hh => h' hh.2), if_neg (fun hh => h' hh.2), if_neg (fun hh => h' hh.2), ?_⟩
  unfold mRefineMeshC
  rw [if_pos h, if_neg h']
theorem mRefine_ok (h : RefineOk C R n l) : mRefineMeshA C R n l = 2 * C - 1 ∧ mRefineMeshB C R n l = 2 * R - 1 ∧ mRefineMeshN C R n l = (2 * R.toNat - 1) * (2 * C.toNat - 1) ∧ mRefineMeshC C R n l = 0 := by
  refine ⟨if_pos h, if_pos h, if_pos h, ?_⟩
  unfold mRefineMeshC
  rw [if_pos h.1, if_pos h.2]
theorem mRefineMesh_len (C R : Int) (n : Nat) (l : Nat → SpotD) : mRefineMeshN C R n l ≤ 1048576 := by
  unfold mRefineMeshN
  split
  · rename_i h
    obtain ⟨_, h1, h2⟩ := h
    have : (2 * R.toNat - 1) * (2 * C.toNat - 1) ≤ 9 * 9 := Nat.mul_le_mul (by omega) (by omega)
    omega
  · omega
end
end Go.Proofs.YthjllledhcfnhaaDoor
namespace Go.Proofs.YthjllledhcfnhaaDoor
open Go.RowKit Go.Lib Go.Ks
theorem idx0 (a b : Value) (W : World) : (Instr.index 144 (.agg #[a, b]) (.int .i64 0)).run Tryd.prog W = .ok a W := by
  simp [Instr.index, run_underlying Tryd.underlying144, go_sem]
theorem idx1 (a b : Value) (W : World) : (Instr.index 144 (.agg #[a, b]) (.int .i64 1)).run Tryd.prog W = .ok b W := by
  simp [Instr.index, run_underlying Tryd.underlying144, go_sem]
set_option maxRecDepth 100000 in
set_option maxHeartbeats 4000000 in
theorem implRefineMesh_any (C R : Int) (A : Option Addr) (n cp : Nat) (l : Nat → SpotD) (w : World) (hn : n ≤ 1048576) (hs : Sl w A (n * 2) (SpotC l)) (_hg : ∀ k, k < n → SpotOk (l k)) :
    Calls Tryd.prog 52 #[.agg #[.int .i64 C, .int .i64 R, .slice A n cp]] w fun e w' => RetM w w' (mRefineMeshA C R n l) (mRefineMeshB C R n l) (mRefineMeshN C R n l) (SpotC (mRefineMeshL C R n l)) (mRefineMeshC C R n l) e ∧ Below w.heap.size w w' := by
  obtain ⟨i0, hi, hz0, hz1, hz2⟩ := info_parts Tryd.infoSpot
  go_enter Tryd.func52, Tryd.ntmps52
  go_wp2_with fail
  generalize hW : World.alloc (World.alloc w _) _ = w1
  have hb1 : Below w.heap.size w w1 := by rw [← hW]; repeat (first | with_reducible exact Below.refl _ _ | with_reducible assumption | with_reducible refine Below.setCell ?_ (by simp <;> omega) _ | with_reducible refine Below.alloc ?_ (by simp <;> omega) _ | with_reducible refine Below.drew ?_)
  have x0 : Blk w1 w.heap.size 69 #[.int .i64 C, .int .i64 R, .slice A n cp] := by rw [← hW]; exact (Blk.new w _ _).alloc _
  have x1 : Blk w1 (w.heap.size + 1) 69 #[.int .i64 0, .int .i64 0, .slice none 0 0] := by
    have h := Blk.new (w.alloc (.cells #[.int .i64 C, .int .i64 R, .slice A n cp] 69)) 69 #[.int .i64 0, .int .i64 0, .slice none 0 0]
    rw [hW] at h
    simpa using h
  clear hW
  have a0 := x0.cell 0
  have a1 := x0.cell 1
  have a2 := x0.cell 2
  simp at a0 a1 a2
  have la := x0.lt
  refine (validMesh_any C R _ n cp l _ hn (hs.below hb1)).mono ?_
  rintro e w2 ⟨rfl, hb2⟩
  have hbw2 := hb1.trans (hb2.mono hb1.size)
  have y1 := x1.below hb2 x1.lt
  have y0 := x0.below hb2 x0.lt
  clear a0 a1 a2
  have s2 := hbw2.size
  have z0 := y1.cell 0
  have z1 := y1.cell 1
  have z2 := y1.cell 2
  simp at z0 z1 z2
  have lz := y1.lt
  cases ok : meshOk C R n l
  · have E := Lib.hid (mRefine_no (C := C) (R := R) (n := n) (l := l) (fun h => by rw [meshOk_yes h] at ok; cases ok))
    have gz0 := y1.frozen 0
    have gz1 := y1.frozen 1
    have gz2 := y1.frozen 2
    go_wp2_with fail
    refine bodyPost_ret (v := .tuple #[.agg #[.int .i64 0, .int .i64 0, .slice none 0 0], .int .i64 1]) (by simp [results, Tryd.results52, go_sem, z0, z1, z2]) rfl ⟨retM E.out.1.symm E.out.2.1.symm E.out.2.2.1.symm E.out.2.2.2.symm (Own.nil _ _ _ _ _) (fun _ => rfl), ?_⟩
    repeat (first | with_reducible exact Below.refl _ _ | with_reducible assumption | with_reducible refine Below.setCell ?_ (by simp <;> omega) _ | with_reducible refine Below.alloc ?_ (by simp <;> omega) _ | with_reducible refine Below.drew ?_)
  have OK := meshOk_of ok
  have OKH := Lib.hid OK
  clear ok
  obtain ⟨⟨hC1, hC2⟩, ⟨hR1, hR2⟩, hnC, hpl⟩ := OK
  obtain ⟨c, rfl⟩ := Int.eq_ofNat_of_zero_le (by omega : 0 ≤ C)
  obtain ⟨r, rfl⟩ := Int.eq_ofNat_of_zero_le (by omega : 0 ≤ R)
  have hnc : n = r * c := by
    have : ((n : Nat) : Int) = ((c * r : Nat) : Int) := by rw [hnC, Int.natCast_mul]
    rw [Nat.mul_comm]; omega
  have HN := Lib.hid hnc
  have HPL := Lib.hid hpl
  clear hpl hnC hnc
  have b0 := y0.cell 0
  have b1 := y0.cell 1
  have b2 := y0.cell 2
  simp at b0 b1 b2
  have lb := y0.lt
  go_upto_region 4 with fail
  generalize hW : World.alloc w2 _ = w3
  have hb3 : Below w2.heap.size w2 w3 := by rw [← hW]; repeat (first | with_reducible exact Below.refl _ _ | with_reducible assumption | with_reducible refine Below.setCell ?_ (by simp <;> omega) _ | with_reducible refine Below.alloc ?_ (by simp <;> omega) _ | with_reducible refine Below.drew ?_)
  have o0 : Blk w3 w2.heap.size 69 #[.int .i64 (2 * (c : Int) - 1), .int .i64 (2 * (r : Int) - 1), .slice none 0 0] := by rw [← hW]; exact Blk.new w2 _ _
  clear hW b0 b1 b2 z0 z1 z2 lz lb
  have hbw3 := hbw2.trans (hb3.mono hbw2.size)
  have v0 := y0.below hb3 y0.lt
  have v1 := y1.below hb3 y1.lt
  have k0 := o0.cell 0
  have k1 := o0.cell 1
  have z0 := v1.cell 0
  have z1 := v1.cell 1
  have z2 := v1.cell 2
  simp at k0 k1 z0 z1 z2
  have lo := o0.lt
  have lz := v1.lt
  by_cases big1 : 2 * (c : Int) - 1 ≤ 9
  case neg =>
    have E := Lib.hid (mRefine_big OKH.out (fun h => big1 h.1))
    have gz0 := v1.frozen 0
    have gz1 := v1.frozen 1
    have gz2 := v1.frozen 2
    go_wp2_with fail
    refine bodyPost_ret (v := .tuple #[.agg #[.int .i64 0, .int .i64 0, .slice none 0 0], .int .i64 5]) (by simp [results, Tryd.results52, go_sem, z0, z1, z2]) rfl ⟨retM E.out.1.symm E.out.2.1.symm E.out.2.2.1.symm E.out.2.2.2.symm (Own.nil _ _ _ _ _) (fun _ => rfl), ?_⟩
    repeat (first | with_reducible exact Below.refl _ _ | with_reducible assumption | with_reducible refine Below.setCell ?_ (by first | omega | (simp <;> omega)) _ | with_reducible refine Below.alloc ?_ (by first | omega | (simp <;> omega)) _ | with_reducible refine Below.drew ?_)
  by_cases big2 : 2 * (r : Int) - 1 ≤ 9
  case neg =>
    have E := Lib.hid (mRefine_big OKH.out (fun h => big2 h.2))
    have gz0 := v1.frozen 0
    have gz1 := v1.frozen 1
    have gz2 := v1.frozen 2
    go_wp2_with fail
    refine bodyPost_ret (v := .tuple #[.agg #[.int .i64 0, .int .i64 0, .slice none 0 0], .int .i64 5]) (by simp [results, Tryd.results52, go_sem, z0, z1, z2]) rfl ⟨retM E.out.1.symm E.out.2.1.symm E.out.2.2.1.symm E.out.2.2.2.symm (Own.nil _ _ _ _ _) (fun _ => rfl), ?_⟩
    repeat (first | with_reducible exact Below.refl _ _ | with_reducible assumption | with_reducible refine Below.setCell ?_ (by first | omega | (simp <;> omega)) _ | with_reducible refine Below.alloc ?_ (by first | omega | (simp <;> omega)) _ | with_reducible refine Below.drew ?_)
  have E := Lib.hid (mRefine_ok ⟨OKH.out, big1, big2⟩)
  go_wp2_with fail
  clear k0 k1 z0 z1 z2 lo lz
  go_loopw [37] (fun a wr => ∃ (y : Nat) (v : Value), y ≤ 2 * r - 1 ∧ a = .int .i64 (y : Int) ∧ Row wr w2.heap.size 81 2 v (y * (2 * c - 1)) (SpotC (refL c l)) ∧ Blk wr w2.heap.size 69 #[.int .i64 (2 * (c : Int) - 1), .int .i64 (2 * (r : Int) - 1), v] ∧ Below w2.heap.size w2 wr) (fun a _ => (2 * r - (intOf a).toNat))
  case atStart => exact ⟨0, _, by omega, rfl, by rw [Nat.zero_mul]; exact Row.nil _ _ _ _ _, o0, hb3⟩
  case round =>
    obtain ⟨y, v, hy, rfl, hrow, ho, hbl⟩ := hrel
    have d0 := ho.cell 0
    simp at d0
    have lo := ho.lt
    by_cases hlt : y < 2 * r - 1
    · have hlt' : (y : Int) < 2 * (r : Int) - 1 := by omega
      go_wp2_with fail
      obtain ⟨wo, rfl⟩ : ∃ wo : World, wo = wr := ⟨_, rfl⟩
      clear d0 lo hlt'
      go_loopw [42] (fun b wr => ∃ (x : Nat) (v : Value), x ≤ 2 * c - 1 ∧ b = .int .i64 (x : Int) ∧ Row wr w2.heap.size 81 2 v (y * (2 * c - 1) + x) (SpotC (refL c l)) ∧ Blk wr w2.heap.size 69 #[.int .i64 (2 * (c : Int) - 1), .int .i64 (2 * (r : Int) - 1), v] ∧ Below w2.heap.size w2 wr) (fun b _ => (2 * c - (intOf b).toNat))
      case atStart => exact ⟨0, _, by omega, rfl, hrow, ho, hbl⟩
      case round =>
        obtain ⟨x, v, hx, rfl, hrow, ho, hbl⟩ := hrel
        have d0 := ho.cell 0
        simp at d0
        have lo := ho.lt
        by_cases hlt2 : x < 2 * c - 1
        · have hlt2' : (x : Int) < 2 * (c : Int) - 1 := by omega
          have hbw := hbw2.trans (hbl.mono hbw2.size)
          have hsz := hbl.size
          have q0 := y0.below hbl y0.lt
          have e0 := q0.cell 0
          have e2 := q0.cell 2
          simp at e0 e2
          have lq := q0.lt
          have hin := refK_in (c := c) (r := r) (y := y) (x := x) (n := n) (by omega) HN.out hlt hlt2
          have hat := refL_at (y := y) (l := l) hlt2
          unfold refS at hat
          obtain ⟨k1, hk1⟩ : ∃ k, k = refK c y x := ⟨_, rfl⟩
          obtain ⟨k2, hk2⟩ : ∃ k, k = refK c y x + x % 2 := ⟨_, rfl⟩
          obtain ⟨k3, hk3⟩ : ∃ k, k = refK c y x + y % 2 * c := ⟨_, rfl⟩
          obtain ⟨k4, hk4⟩ : ∃ k, k = refK c y x + y % 2 * c + x % 2 := ⟨_, rfl⟩
          simp only [← hk1] at hat hin hk2 hk3 hk4
          simp only [← hk3] at hat hin hk4
          simp only [← hk4, ← hk2] at hat hin
          have HAT := Lib.hid hat
          clear hat
          obtain ⟨b, off, rfl, hb, hc⟩ := hs (by omega)
          have lb : b < wr.heap.size := by have := hbw.size; omega
          have ce : ∀ j, j < n → wr.cell? ⟨b, off + j * 2, none⟩ = some (.int .i64 (l j).f0) ∧ wr.cell? ⟨b, off + j * 2 + 1, none⟩ = some (.int .i64 (l j).f1) := fun j hj => by
            refine ⟨by rw [hbw.cell (by exact hb), hc _ (by omega), SpotC0], by rw [hbw.cell (by exact hb), Nat.add_assoc, hc _ (by omega), SpotC1]⟩
          have d10 := (ce k1 (by omega)).1
          have d11 := (ce k1 (by omega)).2
          have d20 := (ce k2 (by omega)).1
          have d21 := (ce k2 (by omega)).2
          have d30 := (ce k3 (by omega)).1
          have d31 := (ce k3 (by omega)).2
          have d40 := (ce k4 (by omega)).1
          have d41 := (ce k4 (by omega)).2
          have g1 := plane_iff.1 (HPL.out k1 (by omega))
          have g2 := plane_iff.1 (HPL.out k2 (by omega))
          have g3 := plane_iff.1 (HPL.out k3 (by omega))
          have g4 := plane_iff.1 (HPL.out k4 (by omega))
          obtain ⟨⟨g11, g12⟩, g13, g14⟩ := g1
          obtain ⟨⟨g21, g22⟩, g23, g24⟩ := g2
          obtain ⟨⟨g31, g32⟩, g33, g34⟩ := g3
          obtain ⟨⟨g41, g42⟩, g43, g44⟩ := g4
          have i1 : (k1 : Int) < (n : Int) := by omega
          have i2 : (k2 : Int) < (n : Int) := by omega
          have i3 : (k3 : Int) < (n : Int) := by omega
          have i4 : (k4 : Int) < (n : Int) := by omega
          clear ce hc hin
          obtain ⟨p, hp⟩ : ∃ p : Nat, p = x % 2 := ⟨_, rfl⟩
          obtain ⟨v, hv⟩ : ∃ v : Nat, v = y % 2 := ⟨_, rfl⟩
          have hxp : (x : Int) % 2 = (p : Int) := by rw [hp]; omega
          have hyv : (y : Int) % 2 = (v : Int) := by rw [hv]; omega
          have hm2 : y / 2 * c ≤ 5 * 9 := Nat.mul_le_mul (by omega) (by omega)
          have hm3 : y % 2 * c ≤ 1 * 9 := Nat.mul_le_mul (by omega) (by omega)
          have hy2 : (y : Int) / 2 * (c : Int) = ((y / 2 * c : Nat) : Int) := by rw [Int.natCast_mul, Int.natCast_ediv]; rfl
          have hy3 : ((y : Int) / 2 + (v : Int)) * (c : Int) = ((y / 2 * c + y % 2 * c : Nat) : Int) := by rw [Int.add_mul, hy2, hv, Int.natCast_add, Int.natCast_mul (y % 2) c]
          have j1 : (y : Int) / 2 * (c : Int) + (x : Int) / 2 = (k1 : Int) := by rw [hy2, hk1]; unfold refK; omega
          have j2 : (y : Int) / 2 * (c : Int) + ((x : Int) / 2 + (p : Int)) = (k2 : Int) := by rw [hy2, hk2, hp, hk1]; unfold refK; omega
          have j3 : ((y : Int) / 2 + (v : Int)) * (c : Int) + (x : Int) / 2 = (k3 : Int) := by rw [hy3, hk3, hk1]; unfold refK; omega
          have j4 : ((y : Int) / 2 + (v : Int)) * (c : Int) + ((x : Int) / 2 + (p : Int)) = (k4 : Int) := by rw [hy3, hk4, hp, hk3, hk1]; unfold refK; omega
          have b11 : 0 ≤ (y : Int) / 2 * (c : Int) := by rw [hy2]; omega
          have b12 : (y : Int) / 2 * (c : Int) ≤ 100 := by rw [hy2]; omega
          have b31 : 0 ≤ ((y : Int) / 2 + (v : Int)) * (c : Int) := by rw [hy3]; omega
          have b32 : ((y : Int) / 2 + (v : Int)) * (c : Int) ≤ 100 := by rw [hy3]; omega
          have hp1 : (p : Int) ≤ 1 := by omega
          have hv1 : (v : Int) ≤ 1 := by omega
          clear hy2 hy3 hm2 hm3 hk1 hk2 hk3 hk4 hp hv
          have hix0 := idx0
          have hix1 := idx1
          go_wp2_with fail
          refine wp_loop_rounds 3 ?_
          rw [rounds_succ]
          go_wp2_with fail
          refine wp_loop_rounds 3 ?_
          rw [rounds_succ]
          go_wp2_with fail
          rw [rounds_succ]
          go_wp2_with fail
          rw [rounds_succ]
          go_wp2_with fail
          rw [rounds_succ]
          go_wp2_with fail
          refine wp_loop_rounds 3 ?_
          rw [rounds_succ]
          go_wp2_with fail
          rw [rounds_succ]
          go_wp2_with fail
          rw [rounds_succ]
          go_wp2_with fail
          rw [rounds_succ]
          go_wp2_with fail
          have o2 := ho.cell 2
          simp at o2
          refine Go.Ks.Make.wp_region_make 7 108 67 81 102 101 spotG aggC (by kernel_rfl) (by kernel_rfl) (by rfl) makeSpot ?_
          simp only [List.take_succ_cons, List.take_zero, List.drop_succ_cons, List.drop_zero]
          repeat (go_big_quiet_step ((go_at_call 90; exact quiet_ext (nearest_any _ _ (by omega) (by omega) (by omega) (by omega) _))))
          refine wpQuiet_nil ?_
          refine ⟨⟨_, _, rfl⟩, ?_⟩
          intro B w7 hb7 hB hblk
          have hblk' : Blk w7 B 81 #[.int .i64 (divr ((l k1).f0 + (l k2).f0 + (l k3).f0 + (l k4).f0) 4), .int .i64 (divr ((l k1).f1 + (l k2).f1 + (l k3).f1 + (l k4).f1) 4)] := hblk
          clear hblk d10 d11 d20 d21 d30 d31 d40 d41 e0 e2 lq lb o2 j1 j2 j3 j4 b11 b12 b31 b32
          have hrow7 := hrow.below hb7
          have ho7 := ho.below hb7 ho.lt
          have hbl7 := hbl.trans (hb7.mono hsz)
          have hsz7 := hbl7.size
          have hqm : y * (2 * c - 1) ≤ 9 * 9 := Nat.mul_le_mul (by omega) (by omega)
          simp only [Act.put, List.setIfInBounds_toArray, List.set_cons_succ, List.set_cons_zero]
          refine wpList_append_row rfl _ _ 67 rfl w2.heap.size 81 i0 _ 2 16 Tryd.underlying67 hi hz0 hz1 hz2 rfl (by decide) _ (y * (2 * c - 1) + x) (SpotC (refL c l)) rfl hrow7 B 1 rfl (blk_news hblk' HAT.out) (spot_one _ _) (by omega) (by omega) hsz7 ?_
          intro v8 w8 hrow8 hg8
          obtain ⟨A8, c8, rfl, _, _, _⟩ := hrow8.own
          have hb8 := Row.after hbl7 (Nat.le_refl _) hsz7 hrow7 hg8 hrow8
          have ho8 := ho7.row hrow7 hg8 (by decide)
          clear hg8
          have f8 := ho8.cell 2
          simp at f8
          have gg8 := ho8.frozen 2
          have l8 := ho8.lt
          have hrow9 := hrow8.set ho8 (by decide) 2 (.slice A8 (y * (2 * c - 1) + x + 1) c8)
          have ho9 := ho8.set_ 2 (.slice A8 (y * (2 * c - 1) + x + 1) c8)
          have hb9 := hb8.setCell (p := ⟨w2.heap.size, 2, none⟩) (by simp) (.slice A8 (y * (2 * c - 1) + x + 1) c8)
          try simp only [Act.put, List.setIfInBounds_toArray, List.set_cons_succ, List.set_cons_zero]
          go_wp2_with fail
          go_roundw
          case rel => exact ⟨x + 1, _, by omega, by go_num, hrow9, ho9, hb9⟩
          case measure => simp [intOf]; omega
        · have hC2 : x = 2 * c - 1 := by omega
          have HC2 := Lib.hid hC2
          clear hC2
          have hnlt : ¬ (x : Int) < 2 * (c : Int) - 1 := by omega
          go_wp2_with fail
          go_roundw
          case rel => exact ⟨y + 1, v, by omega, by go_num, by rw [Nat.add_mul, Nat.one_mul]; have h := hrow; rw [HC2.out] at h; exact h, ho, hbl⟩
          case measure => simp [intOf]; omega
    · have hR2 : y = 2 * r - 1 := by omega
      have HR2 := Lib.hid hR2
      clear hR2
      have hnlt : ¬ (y : Int) < 2 * (r : Int) - 1 := by omega
      have q1 := y1.below hbl y1.lt
      obtain ⟨A5, c5, rfl, _, hown, hz⟩ := hrow.own
      have z0 := q1.cell 0
      have z1 := q1.cell 1
      have z2 := q1.cell 2
      have o0 := ho.cell 0
      have o1 := ho.cell 1
      have o2 := ho.cell 2
      simp at z0 z1 z2 o0 o1 o2
      have lz := q1.lt
      have g0 := q1.frozen 0
      have g1 := q1.frozen 1
      have g2 := q1.frozen 2
      have hbw := hbw2.trans (hbl.mono hbw2.size)
      have ho2 := hown.mono (base' := w.heap.size) (by omega)
      go_wp2_with fail
      refine bodyPost_ret (v := .tuple #[.agg #[.int .i64 (2 * (c : Int) - 1), .int .i64 (2 * (r : Int) - 1), .slice A5 (y * (2 * c - 1)) c5], .int .i64 0]) (by simp [results, Tryd.results52, go_sem, z0, z1, z2]) rfl ⟨retM E.out.1.symm E.out.2.1.symm (by rw [E.out.2.2.1, HR2.out, Int.toNat_natCast, Int.toNat_natCast]) E.out.2.2.2.symm ?_ hz, ?_⟩
      · exact ((ho2.set q1 (by decide) 0 _).set (q1.set_ 0 _) (by decide) 1 _).set ((q1.set_ 0 _).set_ 1 _) (by decide) 2 _
      · repeat (first | with_reducible exact Below.refl _ _ | with_reducible assumption | with_reducible refine Below.setCell ?_ (by simp <;> omega) _ | with_reducible refine Below.alloc ?_ (by simp <;> omega) _ | with_reducible refine Below.drew ?_)
end Go.Proofs.YthjllledhcfnhaaDoor
