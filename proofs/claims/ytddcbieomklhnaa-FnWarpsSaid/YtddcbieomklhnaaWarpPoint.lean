/- WarpPoint. Conditions: the slice reads as spots. -/
import Derived.Test.YtddcbieomklhnaaWarpImpl
namespace Go.Proofs.Ytddcbieomklhnaa
open Go.RowKit Go.Lib Go.Ks

open Classical in
noncomputable def mWarpX (C R : Int) (n : Nat) (l : Nat → SpotD) (u v : Int) : Int := if MeshOk C R n l ∧ Un u ∧ Un v then warpX C R l u v else 0
open Classical in
noncomputable def mWarpY (C R : Int) (n : Nat) (l : Nat → SpotD) (u v : Int) : Int := if MeshOk C R n l ∧ Un u ∧ Un v then warpY C R l u v else 0
open Classical in
noncomputable def mWarpC (C R : Int) (n : Nat) (l : Nat → SpotD) (u v : Int) : Int := if MeshOk C R n l then (if Un u ∧ Un v then 0 else 2) else 1
section
variable {C R : Int} {n : Nat} {l : Nat → SpotD} {u v : Int}
theorem mWarp_no (h : ¬ MeshOk C R n l) : mWarpX C R n l u v = 0 ∧ mWarpY C R n l u v = 0 ∧ mWarpC C R n l u v = 1 := by
  unfold mWarpX mWarpY mWarpC
  exact ⟨if_neg (fun hh => h hh.1), if_neg (fun hh => h hh.1), if_neg h⟩
theorem mWarp_out (h : MeshOk C R n l) (h' : ¬ (Un u ∧ Un v)) : mWarpX C R n l u v = 0 ∧ mWarpY C R n l u v = 0 ∧ mWarpC C R n l u v = 2 := by
  unfold mWarpX mWarpY mWarpC
  exact ⟨if_neg (fun hh => h' hh.2), if_neg (fun hh => h' hh.2), by rw [if_pos h, if_neg h']⟩
theorem mWarp_ok (h : MeshOk C R n l) (h' : Un u ∧ Un v) : mWarpX C R n l u v = warpX C R l u v ∧ mWarpY C R n l u v = warpY C R l u v ∧ mWarpC C R n l u v = 0 := by
  unfold mWarpX mWarpY mWarpC
  exact ⟨if_pos ⟨h, h'⟩, if_pos ⟨h, h'⟩, by rw [if_pos h, if_pos h']⟩
end
theorem ret_spot {a a' b b' c c' : Int} (h : a = a') (h' : b = b') (h'' : c = c') : Ending.returned (.tuple #[.agg #[.int .i64 a, .int .i64 b], .int .i64 c]) = .returned (.tuple #[.agg #[.int .i64 a', .int .i64 b'], .int .i64 c']) := by rw [h, h', h'']

set_option maxRecDepth 100000 in
set_option maxHeartbeats 2000000 in
theorem specWarpPoint_any (C R : Int) (A : Option Addr) (n c : Nat) (l : Nat → SpotD) (u v : Int) (w : World) (hn : n ≤ 1048576) (hs : Sl w A (n * 2) (SpotC l)) (_hg : ∀ k, k < n → SpotOk (l k)) (_hu : -9223372036854775808 ≤ u ∧ u ≤ 9223372036854775807) (_hv : -9223372036854775808 ≤ v ∧ v ≤ 9223372036854775807) :
    Calls Try.prog 26 #[.agg #[.int .i64 C, .int .i64 R, .slice A n c], .int .i64 u, .int .i64 v] w fun e w' => e = .returned (.tuple #[.agg #[.int .i64 (mWarpX C R n l u v), .int .i64 (mWarpY C R n l u v)], .int .i64 (mWarpC C R n l u v)]) ∧ Below w.heap.size w w' := by
  go_enter Try.func26, Try.ntmps26
  go_wp2_with fail
  generalize hW : World.alloc (World.alloc w _) _ = w1
  have hb1 : Below w.heap.size w w1 := by rw [← hW]; repeat (first | with_reducible exact Below.refl _ _ | with_reducible assumption | with_reducible refine Below.setCell ?_ (by simp <;> omega) _ | with_reducible refine Below.alloc ?_ (by simp <;> omega) _ | with_reducible refine Below.drew ?_)
  have x0 : Blk w1 w.heap.size 29 #[.int .i64 C, .int .i64 R, .slice A n c] := by rw [← hW]; exact (Blk.new w _ _).alloc _
  have x1 : Blk w1 (w.heap.size + 1) 39 #[.int .i64 0, .int .i64 0] := by
    have h := Blk.new (w.alloc (.cells #[.int .i64 C, .int .i64 R, .slice A n c] 29)) 39 #[.int .i64 0, .int .i64 0]
    rw [hW] at h
    simpa using h
  clear hW
  have a0 := x0.cell 0
  have a1 := x0.cell 1
  have a2 := x0.cell 2
  simp at a0 a1 a2
  have la := x0.lt
  refine (l11Ok_any _ C R _ n c l _ hn (hs.below hb1) ⟨x0.lt, x0.cell 0, x0.cell 1, x0.cell 2⟩).mono ?_
  rintro e w2 ⟨rfl, hb2⟩
  have hbw2 := hb1.trans (hb2.mono hb1.size)
  have y1 := x1.below hb2 x1.lt
  have y0 := x0.below hb2 x0.lt
  clear a0 a1 a2
  have z0 := y1.cell 0
  have z1 := y1.cell 1
  simp at z0 z1
  have lz := y1.lt
  have gz0 := y1.frozen 0
  have gz1 := y1.frozen 1
  cases ok : meshOk C R n l
  · have E := Lib.hid (mWarp_no (C := C) (R := R) (n := n) (l := l) (u := u) (v := v) (fun h => by rw [meshOk_yes h] at ok; cases ok))
    go_wp2_with fail
    refine bodyPost_ret (v := .tuple #[.agg #[.int .i64 0, .int .i64 0], .int .i64 1]) (by simp [results, Try.results26, go_sem, z0, z1]) rfl ⟨ret_spot E.out.1.symm E.out.2.1.symm E.out.2.2.symm, ?_⟩
    repeat (first | with_reducible exact Below.refl _ _ | with_reducible assumption | with_reducible refine Below.setCell ?_ (by simp <;> omega) _ | with_reducible refine Below.alloc ?_ (by simp <;> omega) _ | with_reducible refine Below.drew ?_)
  have OK := meshOk_of ok
  clear ok
  cases i1 : inB u 0 1000000
  · have E := Lib.hid (mWarp_out (u := u) (v := v) OK (fun h => inB_no.1 i1 h.1))
    clear OK
    go_wp2_with fail
    refine (l00In_eq _ _ _ _).mono ?_
    rintro e w3 ⟨rfl, rfl⟩
    go_wp2_with fail
    refine bodyPost_ret (v := .tuple #[.agg #[.int .i64 0, .int .i64 0], .int .i64 2]) (by simp [results, Try.results26, go_sem, z0, z1]) rfl ⟨ret_spot E.out.1.symm E.out.2.1.symm E.out.2.2.symm, ?_⟩
    repeat (first | with_reducible exact Below.refl _ _ | with_reducible assumption | with_reducible refine Below.setCell ?_ (by simp <;> omega) _ | with_reducible refine Below.alloc ?_ (by simp <;> omega) _ | with_reducible refine Below.drew ?_)
  cases i2 : inB v 0 1000000
  · have E := Lib.hid (mWarp_out (u := u) (v := v) OK (fun h => inB_no.1 i2 h.2))
    clear OK
    go_wp2_with fail
    refine (l00In_eq _ _ _ _).mono ?_
    rintro e w3 ⟨rfl, rfl⟩
    go_wp2_with fail
    refine (l00In_eq _ _ _ _).mono ?_
    rintro e w3 ⟨rfl, rfl⟩
    go_wp2_with fail
    refine bodyPost_ret (v := .tuple #[.agg #[.int .i64 0, .int .i64 0], .int .i64 2]) (by simp [results, Try.results26, go_sem, z0, z1]) rfl ⟨ret_spot E.out.1.symm E.out.2.1.symm E.out.2.2.symm, ?_⟩
    repeat (first | with_reducible exact Below.refl _ _ | with_reducible assumption | with_reducible refine Below.setCell ?_ (by simp <;> omega) _ | with_reducible refine Below.alloc ?_ (by simp <;> omega) _ | with_reducible refine Below.drew ?_)
  have U1 : Un u := inB_iff.1 i1
  have U2 : Un v := inB_iff.1 i2
  have E := Lib.hid (mWarp_ok OK ⟨U1, U2⟩)
  have OKH := Lib.hid OK
  have UH := Lib.hid (And.intro U1 U2)
  clear OK U1 U2
  go_wp2_with fail
  refine (l00In_eq _ _ _ _).mono ?_
  rintro e w3 ⟨rfl, rfl⟩
  go_wp2_with fail
  refine (l00In_eq _ _ _ _).mono ?_
  rintro e w3 ⟨rfl, rfl⟩
  go_wp2_with fail
  refine (l11Warp_any _ C R _ n c l u v _ OKH.out (hs.below hbw2) ⟨y0.lt, y0.cell 0, y0.cell 1, y0.cell 2⟩ UH.out.1 UH.out.2).mono ?_
  rintro e w4 ⟨rfl, hb4⟩
  have hbw4 := hbw2.trans (hb4.mono hbw2.size)
  have x1' := y1.below hb4 y1.lt
  clear z0 z1 lz gz0 gz1
  have z0 := x1'.cell 0
  have z1 := x1'.cell 1
  simp at z0 z1
  have lz := x1'.lt
  have gz0 := x1'.frozen 0
  have gz1 := x1'.frozen 1
  go_wp2_with fail
  refine bodyPost_ret (v := .tuple #[.agg #[.int .i64 (warpX C R l u v), .int .i64 (warpY C R l u v)], .int .i64 0]) (by simp [results, Try.results26, go_sem, z0, z1]) rfl ⟨ret_spot E.out.1.symm E.out.2.1.symm E.out.2.2.symm, ?_⟩
  repeat (first | with_reducible exact Below.refl _ _ | with_reducible assumption | with_reducible refine Below.setCell ?_ (by simp <;> omega) _ | with_reducible refine Below.alloc ?_ (by simp <;> omega) _ | with_reducible refine Below.drew ?_)
set_option maxRecDepth 100000 in
set_option maxHeartbeats 2000000 in
theorem implWarpPoint_any (C R : Int) (A : Option Addr) (n c : Nat) (l : Nat → SpotD) (u v : Int) (w : World) (hn : n ≤ 1048576) (hs : Sl w A (n * 2) (SpotC l)) (_hg : ∀ k, k < n → SpotOk (l k)) (_hu : -9223372036854775808 ≤ u ∧ u ≤ 9223372036854775807) (_hv : -9223372036854775808 ≤ v ∧ v ≤ 9223372036854775807) :
    Calls Try.prog 27 #[.agg #[.int .i64 C, .int .i64 R, .slice A n c], .int .i64 u, .int .i64 v] w fun e w' => e = .returned (.tuple #[.agg #[.int .i64 (mWarpX C R n l u v), .int .i64 (mWarpY C R n l u v)], .int .i64 (mWarpC C R n l u v)]) ∧ Below w.heap.size w w' := by
  go_enter Try.func27, Try.ntmps27
  go_wp2_with fail
  generalize hW : World.alloc (World.alloc w _) _ = w1
  have hb1 : Below w.heap.size w w1 := by rw [← hW]; repeat (first | with_reducible exact Below.refl _ _ | with_reducible assumption | with_reducible refine Below.setCell ?_ (by simp <;> omega) _ | with_reducible refine Below.alloc ?_ (by simp <;> omega) _ | with_reducible refine Below.drew ?_)
  have x0 : Blk w1 w.heap.size 29 #[.int .i64 C, .int .i64 R, .slice A n c] := by rw [← hW]; exact (Blk.new w _ _).alloc _
  have x1 : Blk w1 (w.heap.size + 1) 39 #[.int .i64 0, .int .i64 0] := by
    have h := Blk.new (w.alloc (.cells #[.int .i64 C, .int .i64 R, .slice A n c] 29)) 39 #[.int .i64 0, .int .i64 0]
    rw [hW] at h
    simpa using h
  clear hW
  have a0 := x0.cell 0
  have a1 := x0.cell 1
  have a2 := x0.cell 2
  simp at a0 a1 a2
  have la := x0.lt
  refine (validMesh_any C R _ n c l _ hn (hs.below hb1)).mono ?_
  rintro e w2 ⟨rfl, hb2⟩
  have hbw2 := hb1.trans (hb2.mono hb1.size)
  have y1 := x1.below hb2 x1.lt
  have y0 := x0.below hb2 x0.lt
  clear a0 a1 a2
  have z0 := y1.cell 0
  have z1 := y1.cell 1
  simp at z0 z1
  have lz := y1.lt
  have gz0 := y1.frozen 0
  have gz1 := y1.frozen 1
  cases ok : meshOk C R n l
  · have E := Lib.hid (mWarp_no (C := C) (R := R) (n := n) (l := l) (u := u) (v := v) (fun h => by rw [meshOk_yes h] at ok; cases ok))
    go_wp2_with fail
    refine bodyPost_ret (v := .tuple #[.agg #[.int .i64 0, .int .i64 0], .int .i64 1]) (by simp [results, Try.results27, go_sem, z0, z1]) rfl ⟨ret_spot E.out.1.symm E.out.2.1.symm E.out.2.2.symm, ?_⟩
    repeat (first | with_reducible exact Below.refl _ _ | with_reducible assumption | with_reducible refine Below.setCell ?_ (by simp <;> omega) _ | with_reducible refine Below.alloc ?_ (by simp <;> omega) _ | with_reducible refine Below.drew ?_)
  have OK := meshOk_of ok
  clear ok
  cases i1 : inB u 0 1000000
  · have E := Lib.hid (mWarp_out (u := u) (v := v) OK (fun h => inB_no.1 i1 h.1))
    clear OK
    go_wp2_with fail
    refine (within_eq _ _ _ _).mono ?_
    rintro e w3 ⟨rfl, rfl⟩
    go_wp2_with fail
    refine bodyPost_ret (v := .tuple #[.agg #[.int .i64 0, .int .i64 0], .int .i64 2]) (by simp [results, Try.results27, go_sem, z0, z1]) rfl ⟨ret_spot E.out.1.symm E.out.2.1.symm E.out.2.2.symm, ?_⟩
    repeat (first | with_reducible exact Below.refl _ _ | with_reducible assumption | with_reducible refine Below.setCell ?_ (by simp <;> omega) _ | with_reducible refine Below.alloc ?_ (by simp <;> omega) _ | with_reducible refine Below.drew ?_)
  cases i2 : inB v 0 1000000
  · have E := Lib.hid (mWarp_out (u := u) (v := v) OK (fun h => inB_no.1 i2 h.2))
    clear OK
    go_wp2_with fail
    refine (within_eq _ _ _ _).mono ?_
    rintro e w3 ⟨rfl, rfl⟩
    go_wp2_with fail
    refine (within_eq _ _ _ _).mono ?_
    rintro e w3 ⟨rfl, rfl⟩
    go_wp2_with fail
    refine bodyPost_ret (v := .tuple #[.agg #[.int .i64 0, .int .i64 0], .int .i64 2]) (by simp [results, Try.results27, go_sem, z0, z1]) rfl ⟨ret_spot E.out.1.symm E.out.2.1.symm E.out.2.2.symm, ?_⟩
    repeat (first | with_reducible exact Below.refl _ _ | with_reducible assumption | with_reducible refine Below.setCell ?_ (by simp <;> omega) _ | with_reducible refine Below.alloc ?_ (by simp <;> omega) _ | with_reducible refine Below.drew ?_)
  have U1 : Un u := inB_iff.1 i1
  have U2 : Un v := inB_iff.1 i2
  have E := Lib.hid (mWarp_ok OK ⟨U1, U2⟩)
  have OKH := Lib.hid OK
  have UH := Lib.hid (And.intro U1 U2)
  have b0 := y0.cell 0
  have b1 := y0.cell 1
  have b2 := y0.cell 2
  simp at b0 b1 b2
  have lb := y0.lt
  clear OK U1 U2
  go_wp2_with fail
  refine (within_eq _ _ _ _).mono ?_
  rintro e w3 ⟨rfl, rfl⟩
  go_wp2_with fail
  refine (within_eq _ _ _ _).mono ?_
  rintro e w3 ⟨rfl, rfl⟩
  go_wp2_with fail
  refine (warp_any C R _ n c l u v _ OKH.out (hs.below hbw2) UH.out.1 UH.out.2).mono ?_
  rintro e w4 ⟨rfl, hb4⟩
  have hbw4 := hbw2.trans (hb4.mono hbw2.size)
  have x1' := y1.below hb4 y1.lt
  clear z0 z1 lz gz0 gz1
  have z0 := x1'.cell 0
  have z1 := x1'.cell 1
  simp at z0 z1
  have lz := x1'.lt
  have gz0 := x1'.frozen 0
  have gz1 := x1'.frozen 1
  go_wp2_with fail
  refine bodyPost_ret (v := .tuple #[.agg #[.int .i64 (warpX C R l u v), .int .i64 (warpY C R l u v)], .int .i64 0]) (by simp [results, Try.results27, go_sem, z0, z1]) rfl ⟨ret_spot E.out.1.symm E.out.2.1.symm E.out.2.2.symm, ?_⟩
  repeat (first | with_reducible exact Below.refl _ _ | with_reducible assumption | with_reducible refine Below.setCell ?_ (by simp <;> omega) _ | with_reducible refine Below.alloc ?_ (by simp <;> omega) _ | with_reducible refine Below.drew ?_)
end Go.Proofs.Ytddcbieomklhnaa
