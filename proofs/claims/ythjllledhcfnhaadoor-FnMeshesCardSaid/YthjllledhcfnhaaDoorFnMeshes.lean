/- FnMeshes returns true at every input. Conditions: those that the arguments meet; the library's tables lie. -/
import Derived.Test.YthjllledhcfnhaaDoorMeshesLaw
import Derived.Test.YthjllledhcfnhaaDoorR8Mesh
import Derived.Test.YthjllledhcfnhaaDoorMeshText
import Derived.Test.YthjllledhcfnhaaDoorReadMeshI
namespace Go.Proofs.YthjllledhcfnhaaDoor
open Go.RowKit Go.Lib Go.Ks
theorem bl_alloc {w w' : World} {o : Obj} (h : w.alloc o = w') : Below w.heap.size w w' := by rw [← h]; exact (Below.refl _ _).alloc (Nat.le_refl _) _
theorem kl_alloc {w w' : World} {cs : Array Value} {t : TypeId} (h : w.alloc (.cells cs t) = w') : Blk w' w.heap.size t cs := by rw [← h]; exact Blk.new w t cs
theorem spotEq (x y : Int) (w : World) : (Op.equalIn 10000 81 (.agg #[.int .i64 x, .int .i64 y]) (.agg #[.int .i64 x, .int .i64 y])).run Tryd.prog w = .ok true w := by
  have hst := Tryd.spotStood
  simp [go_sem, hst]
theorem wrap64_small {x : Int} (h : -1000000 ≤ x ∧ x ≤ 1000000) : wrap64 x = x := by unfold wrap64; omega
section
variable {C R : Int} {A A' : Option Addr} {n c c' : Nat} {l m : Nat → SpotD}
theorem mirror_is (w : World) (ok : MeshOk C R n l) (hs : Sl w A (n * 2) (SpotC l)) :
    Calls Tryd.prog 41 #[.agg #[.int .i64 C, .int .i64 R, .slice A n c]] w fun e w' => (∃ A' c', e = .returned (.tuple #[.agg #[.int .i64 C, .int .i64 R, .slice A' n c'], .int .i64 0]) ∧ Own w' w.heap.size 81 2 A' n (SpotC (mirL C.toNat l))) ∧ Below w.heap.size w w' := by
  have h := implMirrorMesh_any C R A n c l w (by have := mesh_nm ok; omega) hs (mesh_spots ok)
  obtain ⟨e1, e2, e3, e4⟩ := mMirror_ok ok
  rw [e1, e2, e3, e4] at h
  exact h.mono (fun e w' ⟨⟨A', c', q, o, _⟩, hb⟩ => ⟨⟨A', c', q, o⟩, hb⟩)
theorem plain_is (w : World) (C1 : 2 ≤ C) (C2 : C ≤ 9) (R1 : 2 ≤ R) (R2 : R ≤ 9) (hn : R.toNat * C.toNat = n) :
    Calls Tryd.prog 44 #[.int .i64 C, .int .i64 R] w fun e w' => (∃ A' c', e = .returned (.tuple #[.agg #[.int .i64 C, .int .i64 R, .slice A' n c'], .int .i64 0]) ∧ Own w' w.heap.size 81 2 A' n (SpotC (plL C R))) ∧ Below w.heap.size w w' := by
  have h := implPlainMesh_any C R w (by omega) (by omega)
  have hpk : plOk C R = true := by unfold plOk; rw [inB_iff.2 ⟨C1, C2⟩, inB_iff.2 ⟨R1, R2⟩]; rfl
  obtain ⟨e1, e2, e3, e4⟩ := mPlainMesh_ok hpk
  rw [e1, e2, e3, e4, hn] at h
  exact h.mono (fun e w' ⟨⟨A', c', q, o, _⟩, hb⟩ => ⟨⟨A', c', q, o⟩, hb⟩)
theorem fold_is (w : World) (ok : MeshOk C R n (plL C R)) (hs : Sl w A (n * 2) (SpotC (plL C R))) :
    Calls Tryd.prog 45 #[.agg #[.int .i64 C, .int .i64 R, .slice A n c]] w fun e w' => (∃ A' c', e = .returned (.tuple #[.slice A' 0 c', .int .i64 0])) ∧ Below w.heap.size w w' := by
  have h := implFoldedCells_any C R A n c (plL C R) w (by have := mesh_nm ok; omega) hs (mesh_spots ok)
  obtain ⟨e1, e2⟩ := mFolded_ok ok
  rw [e1, e2, fold_plain ok.1.1 ok.1.2 ok.2.1.1 ok.2.1.2] at h
  exact h.mono (fun e w' ⟨⟨A', c', q, _⟩, hb⟩ => ⟨⟨A', c', q⟩, hb⟩)
theorem same_is (w : World) (ok : MeshOk C R n l) (ok' : MeshOk C R n m) (hs : Sl w A (n * 2) (SpotC l)) (hs' : Sl w A' (n * 2) (SpotC m)) (he : ∀ j, j < n → l j = m j) :
    Calls Tryd.prog 46 #[.agg #[.int .i64 C, .int .i64 R, .slice A n c], .agg #[.int .i64 C, .int .i64 R, .slice A' n c']] w fun e w' => e = .returned (.bool true) ∧ Below w.heap.size w w' := by
  have b := mesh_nm ok
  have h := specSameMesh_any C R A n c l C R A' n c' m w (by omega) hs (mesh_spots ok) (by omega) hs' (mesh_spots ok')
  rw [same_of he] at h
  exact h
theorem blend_is (t : Int) (w : World) (ok : MeshOk C R n l) (ok' : MeshOk C R n m) (ht : 0 ≤ t ∧ t ≤ 1000) (hs : Sl w A (n * 2) (SpotC l)) (hs' : Sl w A' (n * 2) (SpotC m)) :
    Calls Tryd.prog 47 #[.agg #[.int .i64 C, .int .i64 R, .slice A n c], .agg #[.int .i64 C, .int .i64 R, .slice A' n c'], .int .i64 t] w fun e w' => (∃ A2 c2, e = .returned (.tuple #[.agg #[.int .i64 C, .int .i64 R, .slice A2 n c2], .int .i64 0]) ∧ Own w' w.heap.size 81 2 A2 n (SpotC (blendL l m t))) ∧ Below w.heap.size w w' := by
  have b := mesh_nm ok
  have h := implBlendMeshes_any C R A n c l C R A' n c' m t w (by omega) hs (mesh_spots ok) (by omega) hs' (mesh_spots ok') (by omega)
  obtain ⟨e1, e2, e3, e4⟩ := mBlend_ok (C0 := C) (R0 := R) (n0 := n) (l0 := l) (C1 := C) (R1 := R) (n1 := n) (l1 := m) (t := t) ⟨⟨ok, ok'⟩, inB_iff.2 ht, rfl, rfl⟩
  rw [e1, e2, e3, e4] at h
  exact h.mono (fun e w' ⟨⟨A', c', q, o, _⟩, hb⟩ => ⟨⟨A', c', q, o⟩, hb⟩)
theorem move_is (x y px py : Int) (k : Nat) (w : World) (ok : MeshOk C R n l) (hs : Sl w A (n * 2) (SpotC l)) (hx : 0 ≤ x ∧ x < C) (hy : 0 ≤ y ∧ y < R) (hp : Pl px py) (hk : y * C + x = (k : Int)) :
    Calls Tryd.prog 49 #[.agg #[.int .i64 C, .int .i64 R, .slice A n c], .int .i64 x, .int .i64 y, .agg #[.int .i64 px, .int .i64 py]] w fun e w' => (∃ A2 c2, e = .returned (.tuple #[.agg #[.int .i64 C, .int .i64 R, .slice A2 n c2], .int .i64 0]) ∧ Own w' w.heap.size 81 2 A2 n (SpotC (movL k px py l))) ∧ Below w.heap.size w w' := by
  have b := mesh_nm ok
  obtain ⟨⟨p1, p2⟩, p3, p4⟩ := hp
  have ok' := ok
  obtain ⟨⟨C1, C2⟩, ⟨R1, R2⟩, _⟩ := ok'
  have h := implMoveMeshPoint_any C R A n c l x y px py w (by omega) hs (mesh_spots ok) (by omega) (by omega) (by omega) (by omega)
  have mo : MoveOk C R x y px py := ⟨inB_iff.2 ⟨hx.1, by omega⟩, inB_iff.2 ⟨hy.1, by omega⟩, plane_iff.2 ⟨⟨p1, p2⟩, p3, p4⟩⟩
  obtain ⟨e1, e2, e3, e4⟩ := mMove_ok ok mo
  have e5 : mMoveMeshPointL C R n l x y px py = movL k px py l := by unfold mMoveMeshPointL; rw [hk]; rfl
  rw [e1, e2, e3, e4, e5] at h
  exact h.mono (fun e w' ⟨⟨A', c', q, o, _⟩, hb⟩ => ⟨⟨A', c', q, o⟩, hb⟩)
theorem greatest_is (k : Nat) (px py v : Int) (w : World) (ok : MeshOk C R n l) (ok' : MeshOk C R n (movL k px py l)) (hs : Sl w A (n * 2) (SpotC l)) (hs' : Sl w A' (n * 2) (SpotC (movL k px py l))) (hk : k < n) (hv : iroot (gapS (l k).f0 (l k).f1 px py) = v) :
    Calls Tryd.prog 50 #[.agg #[.int .i64 C, .int .i64 R, .slice A n c], .agg #[.int .i64 C, .int .i64 R, .slice A' n c']] w fun e w' => e = .returned (.tuple #[.int .i64 v, .int .i64 0]) ∧ Below w.heap.size w w' := by
  have b := mesh_nm ok
  have h := implGreatestMove_any C R A n c l C R A' n c' (movL k px py l) w (by omega) hs (mesh_spots ok) (by omega) hs' (mesh_spots ok')
  obtain ⟨e1, e2⟩ := mGreatest_ok (C := C) (R := R) (n := n) (l := l) (C' := C) (R' := R) (n' := n) (m := movL k px py l) ⟨ok, ok'⟩ ⟨rfl, rfl⟩
  rw [e1, e2, gmax_mov, if_pos hk, hv] at h
  exact h
theorem refine_is (w : World) (ok : MeshOk C R n l) (hs : Sl w A (n * 2) (SpotC l)) :
    Calls Tryd.prog 52 #[.agg #[.int .i64 C, .int .i64 R, .slice A n c]] w fun e w' => ((RefineOk C R n l ∧ ∃ A2 c2, e = .returned (.tuple #[.agg #[.int .i64 (2 * C - 1), .int .i64 (2 * R - 1), .slice A2 ((2 * R.toNat - 1) * (2 * C.toNat - 1)) c2], .int .i64 0]) ∧ Own w' w.heap.size 81 2 A2 ((2 * R.toNat - 1) * (2 * C.toNat - 1)) (SpotC (refL C.toNat l))) ∨ ((5 < C ∨ 5 < R) ∧ ∃ A2 c2, e = .returned (.tuple #[.agg #[.int .i64 0, .int .i64 0, .slice A2 0 c2], .int .i64 5]))) ∧ Below w.heap.size w w' := by
  have b := mesh_nm ok
  have h := implRefineMesh_any C R A n c l w (by omega) hs (mesh_spots ok)
  by_cases q : 2 * C - 1 ≤ 9 ∧ 2 * R - 1 ≤ 9
  · obtain ⟨e1, e2, e3, e4⟩ := mRefine_ok (C := C) (R := R) (n := n) (l := l) ⟨ok, q⟩
    rw [e1, e2, e3, e4] at h
    exact h.mono (fun e w' ⟨⟨A', c', q2, o, _⟩, hb⟩ => ⟨.inl ⟨⟨ok, q⟩, A', c', q2, o⟩, hb⟩)
  · obtain ⟨e1, e2, e3, e4⟩ := mRefine_big ok q
    rw [e1, e2, e3, e4] at h
    exact h.mono (fun e w' ⟨⟨A', c', q2, o, _⟩, hb⟩ => ⟨.inr ⟨by omega, A', c', q2⟩, hb⟩)
theorem valid_is (w : World) (ok : MeshOk C R n l) (hs : Sl w A (n * 2) (SpotC l)) :
    Calls Tryd.prog 53 #[.agg #[.int .i64 C, .int .i64 R, .slice A n c]] w fun e w' => e = .returned (.bool true) ∧ Below w.heap.size w w' := by
  have b := mesh_nm ok
  have h := specValidMesh_any C R A n c l w (by omega) hs (mesh_spots ok)
  rw [meshOk_yes ok] at h
  exact h
theorem text_is {s : ByteArray} (w : World) (ok : MeshOk C R n l) (hs : Sl w A (n * 2) (SpotC l)) (hT : Tab w) (ht : meshTx C R l n = s) :
    Calls Tryd.prog 43 #[.agg #[.int .i64 C, .int .i64 R, .slice A n c]] w fun e w' => e = .returned (.string s) ∧ Below w.heap.size w w' := by
  have b := mesh_nm ok
  have h := implMeshText_any C R A n c l w (by omega) hs (mesh_spots ok) hT
  unfold mMT at h
  rw [if_pos (meshOk_yes ok), ht] at h
  exact h
theorem text_size {s : ByteArray} (ok : MeshOk C R n l) (ht : meshTx C R l n = s) : s.size ≤ 1048576 := by
  have b := mesh_nm ok
  have ok' := ok
  obtain ⟨⟨C1, C2⟩, ⟨R1, R2⟩, _⟩ := ok'
  have h := meshTx_size (C := C) (R := R) (l := l) (by omega) (by omega) n (fun j hj => plane_iff.1 (ok.2.2.2 j hj))
  rw [ht] at h
  omega
theorem read_is {s : ByteArray} (w : World) (ok : MeshOk C R n l) (ht : meshTx C R l n = s) (hT : LibV w) :
    Calls Tryd.prog 42 #[.string s] w fun e w' => (∃ A2 c2 L2, e = .returned (.tuple #[.agg #[.int .i64 C, .int .i64 R, .slice A2 n c2], .bool true]) ∧ Own w' w.heap.size 81 2 A2 n (SpotC L2) ∧ ∀ j, j < n → L2 j = l j) ∧ Below w.heap.size w w' := by
  have h := implReadMesh_any s w (text_size ok ht) hT
  obtain ⟨e1, e2, e3, e4, e5⟩ := rm_yes (s := s) (C := C) (R := R) (n := n) (l := l) ⟨ok, ht⟩
  unfold RetRM at h
  rw [e1, e2, e3, e4] at h
  exact h.mono (fun e w' ⟨⟨A', c', q, o, _⟩, hb⟩ => ⟨⟨A', c', _, q, o, e5⟩, hb⟩)
theorem ok_congr (ok : MeshOk C R n l) (h : ∀ j, j < n → m j = l j) : MeshOk C R n m := ⟨ok.1, ok.2.1, ok.2.2.1, fun j hj => by rw [h j hj]; exact ok.2.2.2 j hj⟩
end
set_option maxRecDepth 100000 in
set_option maxHeartbeats 16000000 in
theorem fnMeshes_any (A0 : Option Addr) (n0 c0 : Nat) (l0 : Nat → Int) (A1 : Option Addr) (n1 c1 : Nat) (l1 : Nat → Int) (w : World) (b0 : n0 ≤ 9223372036854775807) (s0 : Sl w A0 (n0 * 1) (ByteC l0)) (g0 : ∀ k, k < n0 → 0 ≤ l0 k ∧ l0 k ≤ 255) (b1 : n1 ≤ 9223372036854775807) (s1 : Sl w A1 (n1 * 1) (ByteC l1)) (g1 : ∀ k, k < n1 → 0 ≤ l1 k ∧ l1 k ≤ 255) (hT : LibV w) :
    Calls Tryd.prog 7 #[.slice A0 n0 c0, .slice A1 n1 c1] w fun e w' => e = .returned (.bool true) ∧ Below w.heap.size w w' := by
  go_enter Tryd.func7, Tryd.ntmps7
  go_wp2_with fail
  refine (r8Long_any A0 n0 c0 A1 n1 c1 _ b0 b1).mono ?_
  rintro e w1 ⟨rfl, HB⟩
  by_cases q : 1048576 < n0 ∨ 1048576 < n1
  · rw [decide_eq_true q]
    go_wp2_with fail
    go_ret
    exact ⟨rfl, HB⟩
  · rw [decide_eq_false q]
    have m0 : n0 ≤ 1048576 := by omega
    have m1 : n1 ≤ 1048576 := by omega
    have S0 := Lib.hid s0
    have S1 := Lib.hid s1
    have G0 := Lib.hid g0
    have G1 := Lib.hid g1
    have HT := Lib.hid hT
    clear q s0 s1 g0 g1 hT
    go_wp2_with fail
    refine (r8Mesh_any A0 n0 c0 l0 _ m0 (S0.out.below HB) G0.out).mono ?_
    rintro e w2 ⟨⟨C, R, Am, N, cm, L, rfl, ok, ownM⟩, hb2⟩
    replace HB := HB.trans (hb2.mono HB.size)
    have SM := Lib.hid ownM.sl
    have ChM := Below.refl w2.heap.size w2
    clear ownM hb2
    have OK := Lib.hid ok
    obtain ⟨N4, N81⟩ := mesh_nm ok
    obtain ⟨⟨C1, C2⟩, ⟨R1, R2⟩, hn, _⟩ := ok
    have hN : R.toNat * C.toNat = N := by
      have e1 : C = (C.toNat : Int) := by omega
      have e2 : R = (R.toNat : Int) := by omega
      rw [e1, e2, ← Int.natCast_mul] at hn
      rw [Nat.mul_comm]
      omega
    have HN := Lib.hid hN
    clear hN
    clear hn
    go_wp2_with fail
    generalize hV : World.alloc _ _ = w3
    have hb3 := bl_alloc hV
    have xM := kl_alloc hV
    clear hV
    replace HB := HB.trans (hb3.mono HB.size)
    replace ChM := ChM.trans (hb3.mono ChM.size)
    clear hb3
    have cM0 := xM.cell 0
    have cM1 := xM.cell 1
    have cM2 := xM.cell 2
    simp at cM0 cM1 cM2
    have cMl := xM.lt
    have OKI := Lib.hid (mir_ok OK.out)
    go_wp2_with fail
    refine (mirror_is _ OK.out (SM.out.below ChM)).mono ?_
    rintro e w4 ⟨⟨Ao, co, rfl, ownO⟩, hb4⟩
    replace HB := HB.trans (hb4.mono HB.size)
    clear cM0 cM1 cM2 cMl
    replace xM := xM.below hb4 xM.lt
    have cM0 := xM.cell 0
    have cM1 := xM.cell 1
    have cM2 := xM.cell 2
    simp at cM0 cM1 cM2
    have cMl := xM.lt
    replace ChM := ChM.trans (hb4.mono ChM.size)
    have SO := Lib.hid ownO.sl
    have ChO := Below.refl w4.heap.size w4
    clear ownO hb4
    go_wp2_with fail
    generalize hV : World.alloc _ _ = w5
    have hb5 := bl_alloc hV
    have xO := kl_alloc hV
    clear hV
    replace HB := HB.trans (hb5.mono HB.size)
    clear cM0 cM1 cM2 cMl
    replace xM := xM.below hb5 xM.lt
    have cM0 := xM.cell 0
    have cM1 := xM.cell 1
    have cM2 := xM.cell 2
    simp at cM0 cM1 cM2
    have cMl := xM.lt
    replace ChM := ChM.trans (hb5.mono ChM.size)
    replace ChO := ChO.trans (hb5.mono ChO.size)
    clear hb5
    have cO0 := xO.cell 0
    have cO1 := xO.cell 1
    have cO2 := xO.cell 2
    simp at cO0 cO1 cO2
    have cOl := xO.lt
    go_wp2_with fail
    refine (mirror_is _ OKI.out (SO.out.below ChO)).mono ?_
    rintro e w6 ⟨⟨Ab, cb, rfl, ownB⟩, hb6⟩
    replace HB := HB.trans (hb6.mono HB.size)
    clear cM0 cM1 cM2 cMl
    replace xM := xM.below hb6 xM.lt
    have cM0 := xM.cell 0
    have cM1 := xM.cell 1
    have cM2 := xM.cell 2
    simp at cM0 cM1 cM2
    have cMl := xM.lt
    clear cO0 cO1 cO2 cOl
    replace xO := xO.below hb6 xO.lt
    have cO0 := xO.cell 0
    have cO1 := xO.cell 1
    have cO2 := xO.cell 2
    simp at cO0 cO1 cO2
    have cOl := xO.lt
    replace ChM := ChM.trans (hb6.mono ChM.size)
    replace ChO := ChO.trans (hb6.mono ChO.size)
    have SB := Lib.hid ownB.sl
    have ChB := Below.refl w6.heap.size w6
    clear ownB hb6
    go_wp2_with fail
    generalize hV : World.alloc _ _ = w7
    have hb7 := bl_alloc hV
    have xB := kl_alloc hV
    clear hV
    replace HB := HB.trans (hb7.mono HB.size)
    clear cM0 cM1 cM2 cMl
    replace xM := xM.below hb7 xM.lt
    have cM0 := xM.cell 0
    have cM1 := xM.cell 1
    have cM2 := xM.cell 2
    simp at cM0 cM1 cM2
    have cMl := xM.lt
    clear cO0 cO1 cO2 cOl
    replace xO := xO.below hb7 xO.lt
    have cO0 := xO.cell 0
    have cO1 := xO.cell 1
    have cO2 := xO.cell 2
    simp at cO0 cO1 cO2
    have cOl := xO.lt
    replace ChM := ChM.trans (hb7.mono ChM.size)
    replace ChO := ChO.trans (hb7.mono ChO.size)
    replace ChB := ChB.trans (hb7.mono ChB.size)
    clear hb7
    have cB0 := xB.cell 0
    have cB1 := xB.cell 1
    have cB2 := xB.cell 2
    simp at cB0 cB1 cB2
    have cBl := xB.lt
    clear cO0 cO1 cO2 cOl
    clear xO
    obtain ⟨s, hs⟩ : ∃ s, meshTx C R L N = s := ⟨_, rfl⟩
    have TX := Lib.hid hs
    clear hs
    go_wp2_with fail
    refine (text_is _ OK.out (SM.out.below ChM) (HT.out.below HB).1 TX.out).mono ?_
    rintro e w8 ⟨rfl, hb8⟩
    replace HB := HB.trans (hb8.mono HB.size)
    clear cM0 cM1 cM2 cMl
    replace xM := xM.below hb8 xM.lt
    have cM0 := xM.cell 0
    have cM1 := xM.cell 1
    have cM2 := xM.cell 2
    simp at cM0 cM1 cM2
    have cMl := xM.lt
    clear cB0 cB1 cB2 cBl
    replace xB := xB.below hb8 xB.lt
    have cB0 := xB.cell 0
    have cB1 := xB.cell 1
    have cB2 := xB.cell 2
    simp at cB0 cB1 cB2
    have cBl := xB.lt
    replace ChM := ChM.trans (hb8.mono ChM.size)
    replace ChO := ChO.trans (hb8.mono ChO.size)
    replace ChB := ChB.trans (hb8.mono ChB.size)
    clear hb8
    go_wp2_with fail
    refine (read_is _ OK.out TX.out (HT.out.below HB)).mono ?_
    rintro e w9 ⟨⟨Ar, cr, Lr, rfl, ownR, hLr⟩, hb9⟩
    replace HB := HB.trans (hb9.mono HB.size)
    clear cM0 cM1 cM2 cMl
    replace xM := xM.below hb9 xM.lt
    have cM0 := xM.cell 0
    have cM1 := xM.cell 1
    have cM2 := xM.cell 2
    simp at cM0 cM1 cM2
    have cMl := xM.lt
    clear cB0 cB1 cB2 cBl
    replace xB := xB.below hb9 xB.lt
    have cB0 := xB.cell 0
    have cB1 := xB.cell 1
    have cB2 := xB.cell 2
    simp at cB0 cB1 cB2
    have cBl := xB.lt
    replace ChM := ChM.trans (hb9.mono ChM.size)
    replace ChO := ChO.trans (hb9.mono ChO.size)
    replace ChB := ChB.trans (hb9.mono ChB.size)
    have SR := Lib.hid ownR.sl
    have ChR := Below.refl w9.heap.size w9
    clear ownR hb9
    have LR := Lib.hid hLr
    clear hLr
    go_wp2_with fail
    generalize hV : World.alloc _ _ = w10
    have hb10 := bl_alloc hV
    have xR := kl_alloc hV
    clear hV
    replace HB := HB.trans (hb10.mono HB.size)
    clear cM0 cM1 cM2 cMl
    replace xM := xM.below hb10 xM.lt
    have cM0 := xM.cell 0
    have cM1 := xM.cell 1
    have cM2 := xM.cell 2
    simp at cM0 cM1 cM2
    have cMl := xM.lt
    clear cB0 cB1 cB2 cBl
    replace xB := xB.below hb10 xB.lt
    have cB0 := xB.cell 0
    have cB1 := xB.cell 1
    have cB2 := xB.cell 2
    simp at cB0 cB1 cB2
    have cBl := xB.lt
    replace ChM := ChM.trans (hb10.mono ChM.size)
    replace ChO := ChO.trans (hb10.mono ChO.size)
    replace ChB := ChB.trans (hb10.mono ChB.size)
    replace ChR := ChR.trans (hb10.mono ChR.size)
    clear hb10
    have cR0 := xR.cell 0
    have cR1 := xR.cell 1
    have cR2 := xR.cell 2
    simp at cR0 cR1 cR2
    have cRl := xR.lt
    go_wp2_with fail
    refine (plain_is _ C1 C2 R1 R2 HN.out).mono ?_
    rintro e w11 ⟨⟨Ap, cp, rfl, ownP⟩, hb11⟩
    replace HB := HB.trans (hb11.mono HB.size)
    clear cM0 cM1 cM2 cMl
    replace xM := xM.below hb11 xM.lt
    have cM0 := xM.cell 0
    have cM1 := xM.cell 1
    have cM2 := xM.cell 2
    simp at cM0 cM1 cM2
    have cMl := xM.lt
    clear cB0 cB1 cB2 cBl
    replace xB := xB.below hb11 xB.lt
    have cB0 := xB.cell 0
    have cB1 := xB.cell 1
    have cB2 := xB.cell 2
    simp at cB0 cB1 cB2
    have cBl := xB.lt
    clear cR0 cR1 cR2 cRl
    replace xR := xR.below hb11 xR.lt
    have cR0 := xR.cell 0
    have cR1 := xR.cell 1
    have cR2 := xR.cell 2
    simp at cR0 cR1 cR2
    have cRl := xR.lt
    replace ChM := ChM.trans (hb11.mono ChM.size)
    replace ChO := ChO.trans (hb11.mono ChO.size)
    replace ChB := ChB.trans (hb11.mono ChB.size)
    replace ChR := ChR.trans (hb11.mono ChR.size)
    have SP := Lib.hid ownP.sl
    have ChP := Below.refl w11.heap.size w11
    clear ownP hb11
    go_wp2_with fail
    generalize hV : World.alloc _ _ = w12
    have hb12 := bl_alloc hV
    have xP := kl_alloc hV
    clear hV
    replace HB := HB.trans (hb12.mono HB.size)
    clear cM0 cM1 cM2 cMl
    replace xM := xM.below hb12 xM.lt
    have cM0 := xM.cell 0
    have cM1 := xM.cell 1
    have cM2 := xM.cell 2
    simp at cM0 cM1 cM2
    have cMl := xM.lt
    clear cB0 cB1 cB2 cBl
    replace xB := xB.below hb12 xB.lt
    have cB0 := xB.cell 0
    have cB1 := xB.cell 1
    have cB2 := xB.cell 2
    simp at cB0 cB1 cB2
    have cBl := xB.lt
    clear cR0 cR1 cR2 cRl
    replace xR := xR.below hb12 xR.lt
    have cR0 := xR.cell 0
    have cR1 := xR.cell 1
    have cR2 := xR.cell 2
    simp at cR0 cR1 cR2
    have cRl := xR.lt
    replace ChM := ChM.trans (hb12.mono ChM.size)
    replace ChO := ChO.trans (hb12.mono ChO.size)
    replace ChB := ChB.trans (hb12.mono ChB.size)
    replace ChR := ChR.trans (hb12.mono ChR.size)
    replace ChP := ChP.trans (hb12.mono ChP.size)
    clear hb12
    have cP0 := xP.cell 0
    have cP1 := xP.cell 1
    have cP2 := xP.cell 2
    simp at cP0 cP1 cP2
    have cPl := xP.lt
    have OKP := Lib.hid (show MeshOk C R N (plL C R) by have h := pl_ok C1 C2 R1 R2; rw [HN.out] at h; exact h)
    go_wp2_with fail
    refine (fold_is _ OKP.out (SP.out.below ChP)).mono ?_
    rintro e w13 ⟨⟨An, cn, rfl⟩, hb13⟩
    replace HB := HB.trans (hb13.mono HB.size)
    clear cM0 cM1 cM2 cMl
    replace xM := xM.below hb13 xM.lt
    have cM0 := xM.cell 0
    have cM1 := xM.cell 1
    have cM2 := xM.cell 2
    simp at cM0 cM1 cM2
    have cMl := xM.lt
    clear cB0 cB1 cB2 cBl
    replace xB := xB.below hb13 xB.lt
    have cB0 := xB.cell 0
    have cB1 := xB.cell 1
    have cB2 := xB.cell 2
    simp at cB0 cB1 cB2
    have cBl := xB.lt
    clear cR0 cR1 cR2 cRl
    replace xR := xR.below hb13 xR.lt
    have cR0 := xR.cell 0
    have cR1 := xR.cell 1
    have cR2 := xR.cell 2
    simp at cR0 cR1 cR2
    have cRl := xR.lt
    clear cP0 cP1 cP2 cPl
    replace xP := xP.below hb13 xP.lt
    have cP0 := xP.cell 0
    have cP1 := xP.cell 1
    have cP2 := xP.cell 2
    simp at cP0 cP1 cP2
    have cPl := xP.lt
    replace ChM := ChM.trans (hb13.mono ChM.size)
    replace ChO := ChO.trans (hb13.mono ChO.size)
    replace ChB := ChB.trans (hb13.mono ChB.size)
    replace ChR := ChR.trans (hb13.mono ChR.size)
    replace ChP := ChP.trans (hb13.mono ChP.size)
    clear hb13
    go_wp2_with fail
    refine (same_is _ (mir_ok OKI.out) OK.out (SB.out.below ChB) (SM.out.below ChM) (mir_mir OK.out)).mono ?_
    rintro e w14 ⟨rfl, hb14⟩
    replace HB := HB.trans (hb14.mono HB.size)
    clear cM0 cM1 cM2 cMl
    replace xM := xM.below hb14 xM.lt
    have cM0 := xM.cell 0
    have cM1 := xM.cell 1
    have cM2 := xM.cell 2
    simp at cM0 cM1 cM2
    have cMl := xM.lt
    clear cB0 cB1 cB2 cBl
    replace xB := xB.below hb14 xB.lt
    have cB0 := xB.cell 0
    have cB1 := xB.cell 1
    have cB2 := xB.cell 2
    simp at cB0 cB1 cB2
    have cBl := xB.lt
    clear cR0 cR1 cR2 cRl
    replace xR := xR.below hb14 xR.lt
    have cR0 := xR.cell 0
    have cR1 := xR.cell 1
    have cR2 := xR.cell 2
    simp at cR0 cR1 cR2
    have cRl := xR.lt
    clear cP0 cP1 cP2 cPl
    replace xP := xP.below hb14 xP.lt
    have cP0 := xP.cell 0
    have cP1 := xP.cell 1
    have cP2 := xP.cell 2
    simp at cP0 cP1 cP2
    have cPl := xP.lt
    replace ChM := ChM.trans (hb14.mono ChM.size)
    replace ChO := ChO.trans (hb14.mono ChO.size)
    replace ChB := ChB.trans (hb14.mono ChB.size)
    replace ChR := ChR.trans (hb14.mono ChR.size)
    replace ChP := ChP.trans (hb14.mono ChP.size)
    clear hb14
    go_wp2_with fail
    refine (same_is _ (ok_congr OK.out LR.out) OK.out (SR.out.below ChR) (SM.out.below ChM) LR.out).mono ?_
    rintro e w15 ⟨rfl, hb15⟩
    replace HB := HB.trans (hb15.mono HB.size)
    clear cM0 cM1 cM2 cMl
    replace xM := xM.below hb15 xM.lt
    have cM0 := xM.cell 0
    have cM1 := xM.cell 1
    have cM2 := xM.cell 2
    simp at cM0 cM1 cM2
    have cMl := xM.lt
    clear cB0 cB1 cB2 cBl
    replace xB := xB.below hb15 xB.lt
    have cB0 := xB.cell 0
    have cB1 := xB.cell 1
    have cB2 := xB.cell 2
    simp at cB0 cB1 cB2
    have cBl := xB.lt
    clear cR0 cR1 cR2 cRl
    replace xR := xR.below hb15 xR.lt
    have cR0 := xR.cell 0
    have cR1 := xR.cell 1
    have cR2 := xR.cell 2
    simp at cR0 cR1 cR2
    have cRl := xR.lt
    clear cP0 cP1 cP2 cPl
    replace xP := xP.below hb15 xP.lt
    have cP0 := xP.cell 0
    have cP1 := xP.cell 1
    have cP2 := xP.cell 2
    simp at cP0 cP1 cP2
    have cPl := xP.lt
    replace ChM := ChM.trans (hb15.mono ChM.size)
    replace ChO := ChO.trans (hb15.mono ChO.size)
    replace ChB := ChB.trans (hb15.mono ChB.size)
    replace ChR := ChR.trans (hb15.mono ChR.size)
    replace ChP := ChP.trans (hb15.mono ChP.size)
    clear hb15
    clear cB0 cB1 cB2 cBl
    clear xB
    clear cR0 cR1 cR2 cRl
    clear xR
    go_wp2_with fail
    refine (blend_is 0 _ OK.out OKP.out (by decide) (SM.out.below ChM) (SP.out.below ChP)).mono ?_
    rintro e w16 ⟨⟨Al, cl, rfl, ownL⟩, hb16⟩
    replace HB := HB.trans (hb16.mono HB.size)
    clear cM0 cM1 cM2 cMl
    replace xM := xM.below hb16 xM.lt
    have cM0 := xM.cell 0
    have cM1 := xM.cell 1
    have cM2 := xM.cell 2
    simp at cM0 cM1 cM2
    have cMl := xM.lt
    clear cP0 cP1 cP2 cPl
    replace xP := xP.below hb16 xP.lt
    have cP0 := xP.cell 0
    have cP1 := xP.cell 1
    have cP2 := xP.cell 2
    simp at cP0 cP1 cP2
    have cPl := xP.lt
    replace ChM := ChM.trans (hb16.mono ChM.size)
    replace ChO := ChO.trans (hb16.mono ChO.size)
    replace ChB := ChB.trans (hb16.mono ChB.size)
    replace ChR := ChR.trans (hb16.mono ChR.size)
    replace ChP := ChP.trans (hb16.mono ChP.size)
    have SL := Lib.hid ownL.sl
    have ChL := Below.refl w16.heap.size w16
    clear ownL hb16
    go_wp2_with fail
    generalize hV : World.alloc _ _ = w17
    have hb17 := bl_alloc hV
    have xL := kl_alloc hV
    clear hV
    replace HB := HB.trans (hb17.mono HB.size)
    clear cM0 cM1 cM2 cMl
    replace xM := xM.below hb17 xM.lt
    have cM0 := xM.cell 0
    have cM1 := xM.cell 1
    have cM2 := xM.cell 2
    simp at cM0 cM1 cM2
    have cMl := xM.lt
    clear cP0 cP1 cP2 cPl
    replace xP := xP.below hb17 xP.lt
    have cP0 := xP.cell 0
    have cP1 := xP.cell 1
    have cP2 := xP.cell 2
    simp at cP0 cP1 cP2
    have cPl := xP.lt
    replace ChM := ChM.trans (hb17.mono ChM.size)
    replace ChO := ChO.trans (hb17.mono ChO.size)
    replace ChB := ChB.trans (hb17.mono ChB.size)
    replace ChR := ChR.trans (hb17.mono ChR.size)
    replace ChP := ChP.trans (hb17.mono ChP.size)
    replace ChL := ChL.trans (hb17.mono ChL.size)
    clear hb17
    have cL0 := xL.cell 0
    have cL1 := xL.cell 1
    have cL2 := xL.cell 2
    simp at cL0 cL1 cL2
    have cLl := xL.lt
    go_wp2_with fail
    refine (blend_is 1000 _ OK.out OKP.out (by decide) (SM.out.below ChM) (SP.out.below ChP)).mono ?_
    rintro e w18 ⟨⟨Ah, ch, rfl, ownH⟩, hb18⟩
    replace HB := HB.trans (hb18.mono HB.size)
    clear cM0 cM1 cM2 cMl
    replace xM := xM.below hb18 xM.lt
    have cM0 := xM.cell 0
    have cM1 := xM.cell 1
    have cM2 := xM.cell 2
    simp at cM0 cM1 cM2
    have cMl := xM.lt
    clear cP0 cP1 cP2 cPl
    replace xP := xP.below hb18 xP.lt
    have cP0 := xP.cell 0
    have cP1 := xP.cell 1
    have cP2 := xP.cell 2
    simp at cP0 cP1 cP2
    have cPl := xP.lt
    clear cL0 cL1 cL2 cLl
    replace xL := xL.below hb18 xL.lt
    have cL0 := xL.cell 0
    have cL1 := xL.cell 1
    have cL2 := xL.cell 2
    simp at cL0 cL1 cL2
    have cLl := xL.lt
    replace ChM := ChM.trans (hb18.mono ChM.size)
    replace ChO := ChO.trans (hb18.mono ChO.size)
    replace ChB := ChB.trans (hb18.mono ChB.size)
    replace ChR := ChR.trans (hb18.mono ChR.size)
    replace ChP := ChP.trans (hb18.mono ChP.size)
    replace ChL := ChL.trans (hb18.mono ChL.size)
    have SH := Lib.hid ownH.sl
    have ChH := Below.refl w18.heap.size w18
    clear ownH hb18
    go_wp2_with fail
    generalize hV : World.alloc _ _ = w19
    have hb19 := bl_alloc hV
    have xH := kl_alloc hV
    clear hV
    replace HB := HB.trans (hb19.mono HB.size)
    clear cM0 cM1 cM2 cMl
    replace xM := xM.below hb19 xM.lt
    have cM0 := xM.cell 0
    have cM1 := xM.cell 1
    have cM2 := xM.cell 2
    simp at cM0 cM1 cM2
    have cMl := xM.lt
    clear cP0 cP1 cP2 cPl
    replace xP := xP.below hb19 xP.lt
    have cP0 := xP.cell 0
    have cP1 := xP.cell 1
    have cP2 := xP.cell 2
    simp at cP0 cP1 cP2
    have cPl := xP.lt
    clear cL0 cL1 cL2 cLl
    replace xL := xL.below hb19 xL.lt
    have cL0 := xL.cell 0
    have cL1 := xL.cell 1
    have cL2 := xL.cell 2
    simp at cL0 cL1 cL2
    have cLl := xL.lt
    replace ChM := ChM.trans (hb19.mono ChM.size)
    replace ChO := ChO.trans (hb19.mono ChO.size)
    replace ChB := ChB.trans (hb19.mono ChB.size)
    replace ChR := ChR.trans (hb19.mono ChR.size)
    replace ChP := ChP.trans (hb19.mono ChP.size)
    replace ChL := ChL.trans (hb19.mono ChL.size)
    replace ChH := ChH.trans (hb19.mono ChH.size)
    clear hb19
    have cH0 := xH.cell 0
    have cH1 := xH.cell 1
    have cH2 := xH.cell 2
    simp at cH0 cH1 cH2
    have cHl := xH.lt
    go_wp2_with fail
    refine (same_is _ (ok_congr OK.out (fun j _ => blend_low L (plL C R) j)) OK.out (SL.out.below ChL) (SM.out.below ChM) (fun j _ => blend_low L (plL C R) j)).mono ?_
    rintro e w20 ⟨rfl, hb20⟩
    replace HB := HB.trans (hb20.mono HB.size)
    clear cM0 cM1 cM2 cMl
    replace xM := xM.below hb20 xM.lt
    have cM0 := xM.cell 0
    have cM1 := xM.cell 1
    have cM2 := xM.cell 2
    simp at cM0 cM1 cM2
    have cMl := xM.lt
    clear cP0 cP1 cP2 cPl
    replace xP := xP.below hb20 xP.lt
    have cP0 := xP.cell 0
    have cP1 := xP.cell 1
    have cP2 := xP.cell 2
    simp at cP0 cP1 cP2
    have cPl := xP.lt
    clear cL0 cL1 cL2 cLl
    replace xL := xL.below hb20 xL.lt
    have cL0 := xL.cell 0
    have cL1 := xL.cell 1
    have cL2 := xL.cell 2
    simp at cL0 cL1 cL2
    have cLl := xL.lt
    clear cH0 cH1 cH2 cHl
    replace xH := xH.below hb20 xH.lt
    have cH0 := xH.cell 0
    have cH1 := xH.cell 1
    have cH2 := xH.cell 2
    simp at cH0 cH1 cH2
    have cHl := xH.lt
    replace ChM := ChM.trans (hb20.mono ChM.size)
    replace ChO := ChO.trans (hb20.mono ChO.size)
    replace ChB := ChB.trans (hb20.mono ChB.size)
    replace ChR := ChR.trans (hb20.mono ChR.size)
    replace ChP := ChP.trans (hb20.mono ChP.size)
    replace ChL := ChL.trans (hb20.mono ChL.size)
    replace ChH := ChH.trans (hb20.mono ChH.size)
    clear hb20
    go_wp2_with fail
    refine (same_is _ (ok_congr OKP.out (fun j _ => blend_high L (plL C R) j)) OKP.out (SH.out.below ChH) (SP.out.below ChP) (fun j _ => blend_high L (plL C R) j)).mono ?_
    rintro e w21 ⟨rfl, hb21⟩
    replace HB := HB.trans (hb21.mono HB.size)
    clear cM0 cM1 cM2 cMl
    replace xM := xM.below hb21 xM.lt
    have cM0 := xM.cell 0
    have cM1 := xM.cell 1
    have cM2 := xM.cell 2
    simp at cM0 cM1 cM2
    have cMl := xM.lt
    clear cP0 cP1 cP2 cPl
    replace xP := xP.below hb21 xP.lt
    have cP0 := xP.cell 0
    have cP1 := xP.cell 1
    have cP2 := xP.cell 2
    simp at cP0 cP1 cP2
    have cPl := xP.lt
    clear cL0 cL1 cL2 cLl
    replace xL := xL.below hb21 xL.lt
    have cL0 := xL.cell 0
    have cL1 := xL.cell 1
    have cL2 := xL.cell 2
    simp at cL0 cL1 cL2
    have cLl := xL.lt
    clear cH0 cH1 cH2 cHl
    replace xH := xH.below hb21 xH.lt
    have cH0 := xH.cell 0
    have cH1 := xH.cell 1
    have cH2 := xH.cell 2
    simp at cH0 cH1 cH2
    have cHl := xH.lt
    replace ChM := ChM.trans (hb21.mono ChM.size)
    replace ChO := ChO.trans (hb21.mono ChO.size)
    replace ChB := ChB.trans (hb21.mono ChB.size)
    replace ChR := ChR.trans (hb21.mono ChR.size)
    replace ChP := ChP.trans (hb21.mono ChP.size)
    replace ChL := ChL.trans (hb21.mono ChL.size)
    replace ChH := ChH.trans (hb21.mono ChH.size)
    clear hb21
    clear cL0 cL1 cL2 cLl
    clear xL
    clear cH0 cH1 cH2 cHl
    clear xH
    clear cP0 cP1 cP2 cPl
    clear xP
    go_wp2_with fail
    refine (r8At_any A1 n1 c1 l1 0 C _ m1 (by omega) (by omega) (S1.out.below HB) G1.out).mono ?_
    rintro e w22 ⟨⟨i, rfl, i1, i2⟩, hb22⟩
    replace HB := HB.trans (hb22.mono HB.size)
    clear cM0 cM1 cM2 cMl
    replace xM := xM.below hb22 xM.lt
    have cM0 := xM.cell 0
    have cM1 := xM.cell 1
    have cM2 := xM.cell 2
    simp at cM0 cM1 cM2
    have cMl := xM.lt
    replace ChM := ChM.trans (hb22.mono ChM.size)
    replace ChO := ChO.trans (hb22.mono ChO.size)
    replace ChB := ChB.trans (hb22.mono ChB.size)
    replace ChR := ChR.trans (hb22.mono ChR.size)
    replace ChP := ChP.trans (hb22.mono ChP.size)
    replace ChL := ChL.trans (hb22.mono ChL.size)
    replace ChH := ChH.trans (hb22.mono ChH.size)
    clear hb22
    go_wp2_with fail
    refine (r8At_any A1 n1 c1 l1 1 R _ m1 (by omega) (by omega) (S1.out.below HB) G1.out).mono ?_
    rintro e w23 ⟨⟨k, rfl, k1, k2⟩, hb23⟩
    replace HB := HB.trans (hb23.mono HB.size)
    clear cM0 cM1 cM2 cMl
    replace xM := xM.below hb23 xM.lt
    have cM0 := xM.cell 0
    have cM1 := xM.cell 1
    have cM2 := xM.cell 2
    simp at cM0 cM1 cM2
    have cMl := xM.lt
    replace ChM := ChM.trans (hb23.mono ChM.size)
    replace ChO := ChO.trans (hb23.mono ChO.size)
    replace ChB := ChB.trans (hb23.mono ChB.size)
    replace ChR := ChR.trans (hb23.mono ChR.size)
    replace ChP := ChP.trans (hb23.mono ChP.size)
    replace ChL := ChL.trans (hb23.mono ChL.size)
    replace ChH := ChH.trans (hb23.mono ChH.size)
    clear hb23
    go_wp2_with fail
    refine (r8Wide_any A1 n1 c1 l1 2 60000 _ m1 (by omega) (by decide) (S1.out.below HB) G1.out).mono ?_
    rintro e w24 ⟨⟨px, rfl, p1, p2⟩, hb24⟩
    replace HB := HB.trans (hb24.mono HB.size)
    clear cM0 cM1 cM2 cMl
    replace xM := xM.below hb24 xM.lt
    have cM0 := xM.cell 0
    have cM1 := xM.cell 1
    have cM2 := xM.cell 2
    simp at cM0 cM1 cM2
    have cMl := xM.lt
    replace ChM := ChM.trans (hb24.mono ChM.size)
    replace ChO := ChO.trans (hb24.mono ChO.size)
    replace ChB := ChB.trans (hb24.mono ChB.size)
    replace ChR := ChR.trans (hb24.mono ChR.size)
    replace ChP := ChP.trans (hb24.mono ChP.size)
    replace ChL := ChL.trans (hb24.mono ChL.size)
    replace ChH := ChH.trans (hb24.mono ChH.size)
    clear hb24
    go_wp2_with fail
    refine (r8Wide_any A1 n1 c1 l1 4 60000 _ m1 (by omega) (by decide) (S1.out.below HB) G1.out).mono ?_
    rintro e w25 ⟨⟨py, rfl, p3, p4⟩, hb25⟩
    replace HB := HB.trans (hb25.mono HB.size)
    clear cM0 cM1 cM2 cMl
    replace xM := xM.below hb25 xM.lt
    have cM0 := xM.cell 0
    have cM1 := xM.cell 1
    have cM2 := xM.cell 2
    simp at cM0 cM1 cM2
    have cMl := xM.lt
    replace ChM := ChM.trans (hb25.mono ChM.size)
    replace ChO := ChO.trans (hb25.mono ChO.size)
    replace ChB := ChB.trans (hb25.mono ChB.size)
    replace ChR := ChR.trans (hb25.mono ChR.size)
    replace ChP := ChP.trans (hb25.mono ChP.size)
    replace ChL := ChL.trans (hb25.mono ChL.size)
    replace ChH := ChH.trans (hb25.mono ChH.size)
    clear hb25
    go_wp2_with fail
    generalize hV : World.alloc _ _ = w26
    have hb26 := bl_alloc hV
    have xS := kl_alloc hV
    clear hV
    replace HB := HB.trans (hb26.mono HB.size)
    clear cM0 cM1 cM2 cMl
    replace xM := xM.below hb26 xM.lt
    have cM0 := xM.cell 0
    have cM1 := xM.cell 1
    have cM2 := xM.cell 2
    simp at cM0 cM1 cM2
    have cMl := xM.lt
    replace ChM := ChM.trans (hb26.mono ChM.size)
    replace ChO := ChO.trans (hb26.mono ChO.size)
    replace ChB := ChB.trans (hb26.mono ChB.size)
    replace ChR := ChR.trans (hb26.mono ChR.size)
    replace ChP := ChP.trans (hb26.mono ChP.size)
    replace ChL := ChL.trans (hb26.mono ChL.size)
    replace ChH := ChH.trans (hb26.mono ChH.size)
    clear hb26
    have cS0 := xS.cell 0
    have cS1 := xS.cell 1
    simp at cS0 cS1
    have cSl := xS.lt
    have PL := Lib.hid (show Pl (20 * px) (20 * py) from ⟨⟨by omega, by omega⟩, by omega, by omega⟩)
    obtain ⟨a, rfl⟩ := Int.eq_ofNat_of_zero_le i1
    obtain ⟨b, rfl⟩ := Int.eq_ofNat_of_zero_le k1
    obtain ⟨cc, hcc⟩ := Int.eq_ofNat_of_zero_le (show 0 ≤ C by omega)
    obtain ⟨rr, hrr⟩ := Int.eq_ofNat_of_zero_le (show 0 ≤ R by omega)
    subst hcc hrr
    have hbc : b * cc + a < N := by have h := HN.out; rw [Int.toNat_natCast, Int.toNat_natCast] at h; have h2 : (b + 1) * cc ≤ rr * cc := Nat.mul_le_mul_right cc (by omega); rw [Nat.add_mul, Nat.one_mul] at h2; omega
    have hix : (b : Int) * (cc : Int) + (a : Int) = ((b * cc + a : Nat) : Int) := by rw [Int.natCast_add, Int.natCast_mul]
    obtain ⟨ix, hixx⟩ : ∃ ix, b * cc + a = ix := ⟨_, rfl⟩
    rw [hixx] at hix hbc
    have HIX := Lib.hid hix
    have HXX := Lib.hid hixx
    clear hix hixx
    go_wp2_with fail
    refine (move_is (a : Int) (b : Int) (20 * px) (20 * py) ix _ OK.out (SM.out.below ChM) ⟨by omega, by omega⟩ ⟨by omega, by omega⟩ PL.out HIX.out).mono ?_
    rintro e w27 ⟨⟨Av, cv, rfl, ownV⟩, hb27⟩
    replace HB := HB.trans (hb27.mono HB.size)
    clear cM0 cM1 cM2 cMl
    replace xM := xM.below hb27 xM.lt
    have cM0 := xM.cell 0
    have cM1 := xM.cell 1
    have cM2 := xM.cell 2
    simp at cM0 cM1 cM2
    have cMl := xM.lt
    clear cS0 cS1 cSl
    replace xS := xS.below hb27 xS.lt
    have cS0 := xS.cell 0
    have cS1 := xS.cell 1
    simp at cS0 cS1
    have cSl := xS.lt
    replace ChM := ChM.trans (hb27.mono ChM.size)
    replace ChO := ChO.trans (hb27.mono ChO.size)
    replace ChB := ChB.trans (hb27.mono ChB.size)
    replace ChR := ChR.trans (hb27.mono ChR.size)
    replace ChP := ChP.trans (hb27.mono ChP.size)
    replace ChL := ChL.trans (hb27.mono ChL.size)
    replace ChH := ChH.trans (hb27.mono ChH.size)
    have SV := Lib.hid ownV.sl
    have ChV := Below.refl w27.heap.size w27
    clear ownV hb27
    go_wp2_with fail
    generalize hV : World.alloc _ _ = w28
    have hb28 := bl_alloc hV
    have xV := kl_alloc hV
    clear hV
    replace HB := HB.trans (hb28.mono HB.size)
    clear cM0 cM1 cM2 cMl
    replace xM := xM.below hb28 xM.lt
    have cM0 := xM.cell 0
    have cM1 := xM.cell 1
    have cM2 := xM.cell 2
    simp at cM0 cM1 cM2
    have cMl := xM.lt
    clear cS0 cS1 cSl
    replace xS := xS.below hb28 xS.lt
    have cS0 := xS.cell 0
    have cS1 := xS.cell 1
    simp at cS0 cS1
    have cSl := xS.lt
    replace ChM := ChM.trans (hb28.mono ChM.size)
    replace ChO := ChO.trans (hb28.mono ChO.size)
    replace ChB := ChB.trans (hb28.mono ChB.size)
    replace ChR := ChR.trans (hb28.mono ChR.size)
    replace ChP := ChP.trans (hb28.mono ChP.size)
    replace ChL := ChL.trans (hb28.mono ChL.size)
    replace ChH := ChH.trans (hb28.mono ChH.size)
    replace ChV := ChV.trans (hb28.mono ChV.size)
    clear hb28
    have cV0 := xV.cell 0
    have cV1 := xV.cell 1
    have cV2 := xV.cell 2
    simp at cV0 cV1 cV2
    have cVl := xV.lt
    obtain ⟨far, hfar⟩ : ∃ v, iroot (gapS (L ix).f0 (L ix).f1 (20 * px) (20 * py)) = v := ⟨_, rfl⟩
    have FAR := Lib.hid hfar
    clear hfar
    have OKV := Lib.hid (mov_ok (k := ix) (px := 20 * px) (py := 20 * py) OK.out (plane_iff.2 PL.out))
    go_wp2_with fail
    refine (greatest_is ix (20 * px) (20 * py) far _ OK.out OKV.out (SM.out.below ChM) (SV.out.below ChV) hbc FAR.out).mono ?_
    rintro e w29 ⟨rfl, hb29⟩
    replace HB := HB.trans (hb29.mono HB.size)
    clear cM0 cM1 cM2 cMl
    replace xM := xM.below hb29 xM.lt
    have cM0 := xM.cell 0
    have cM1 := xM.cell 1
    have cM2 := xM.cell 2
    simp at cM0 cM1 cM2
    have cMl := xM.lt
    clear cS0 cS1 cSl
    replace xS := xS.below hb29 xS.lt
    have cS0 := xS.cell 0
    have cS1 := xS.cell 1
    simp at cS0 cS1
    have cSl := xS.lt
    clear cV0 cV1 cV2 cVl
    replace xV := xV.below hb29 xV.lt
    have cV0 := xV.cell 0
    have cV1 := xV.cell 1
    have cV2 := xV.cell 2
    simp at cV0 cV1 cV2
    have cVl := xV.lt
    replace ChM := ChM.trans (hb29.mono ChM.size)
    replace ChO := ChO.trans (hb29.mono ChO.size)
    replace ChB := ChB.trans (hb29.mono ChB.size)
    replace ChR := ChR.trans (hb29.mono ChR.size)
    replace ChP := ChP.trans (hb29.mono ChP.size)
    replace ChL := ChL.trans (hb29.mono ChL.size)
    replace ChH := ChH.trans (hb29.mono ChH.size)
    replace ChV := ChV.trans (hb29.mono ChV.size)
    clear hb29
    clear cV0 cV1 cV2 cVl
    clear xV
    have wr1 : IntKind.i64.wrap ((b : Int) * (cc : Int)) = (b : Int) * (cc : Int) := by have := HIX.out; rw [IntKind.wrap_i64]; omega
    have wr2 : IntKind.i64.wrap ((b : Int) * (cc : Int) + (a : Int)) = (ix : Int) := by rw [HIX.out, IntKind.wrap_i64]; omega
    have QL := Lib.hid (plane_pl (OK.out.2.2.2 ix hbc))
    obtain ⟨Bs, off, rfl, hBs, hcs⟩ := (SM.out.below ChM) (by omega)
    have z0 := hcs (ix * 2) (by omega)
    have z1 := hcs (ix * 2 + 1) (by omega)
    rw [SpotC0] at z0
    rw [SpotC1, ← Nat.add_assoc] at z1
    clear hcs
    have hlt1 : (ix : Int) < (N : Int) := by omega
    have hlt0 : (0 : Int) ≤ (ix : Int) := by omega
    go_wp2_with fail
    have RF : ∀ W, Calls Tryd.prog 51 #[.agg #[.int .i64 (L ix).f0, .int .i64 (L ix).f1], .agg #[.int .i64 (20 * px), .int .i64 (20 * py)]] W fun e w' => e = .returned (.int .i64 far) ∧ Below W.heap.size W w' := fun W => by have h := r8Far_any (L ix).f0 (L ix).f1 (20 * px) (20 * py) W QL.out PL.out; rw [FAR.out] at h; exact h
    have RFH := Lib.hid RF
    clear RF
    refine wp_region_ext (by kernel_rfl) (by kernel_rfl) ?_
    repeat (go_big_quiet_step ((first | (go_at_call 51; exact quiet_ext (RFH.out _)))))
    refine wpQuiet_nil ?_
    intro e30
    have hb30 := e30.below
    generalize e30.val = w30 at *
    replace HB := HB.trans (hb30.mono HB.size)
    clear cM0 cM1 cM2 cMl
    replace xM := xM.below hb30 xM.lt
    have cM0 := xM.cell 0
    have cM1 := xM.cell 1
    have cM2 := xM.cell 2
    simp at cM0 cM1 cM2
    have cMl := xM.lt
    clear cS0 cS1 cSl
    replace xS := xS.below hb30 xS.lt
    have cS0 := xS.cell 0
    have cS1 := xS.cell 1
    simp at cS0 cS1
    have cSl := xS.lt
    replace ChM := ChM.trans (hb30.mono ChM.size)
    replace ChO := ChO.trans (hb30.mono ChO.size)
    replace ChB := ChB.trans (hb30.mono ChB.size)
    replace ChR := ChR.trans (hb30.mono ChR.size)
    replace ChP := ChP.trans (hb30.mono ChP.size)
    replace ChL := ChL.trans (hb30.mono ChL.size)
    replace ChH := ChH.trans (hb30.mono ChH.size)
    replace ChV := ChV.trans (hb30.mono ChV.size)
    clear hb30 e30 z0 z1 hBs
    clear cS0 cS1 cSl
    clear xS
    clear RFH QL wr1 wr2
    go_wp2_with fail
    refine (refine_is _ OK.out (SM.out.below ChM)).mono ?_
    rintro e w31 ⟨⟨RO, A2, c2, rfl, ownF⟩ | ⟨hbig, A2, c2, rfl⟩, hb31⟩
    rotate_left
    replace HB := HB.trans (hb31.mono HB.size)
    clear cM0 cM1 cM2 cMl
    replace xM := xM.below hb31 xM.lt
    have cM0 := xM.cell 0
    have cM1 := xM.cell 1
    have cM2 := xM.cell 2
    simp at cM0 cM1 cM2
    have cMl := xM.lt
    replace ChM := ChM.trans (hb31.mono ChM.size)
    replace ChO := ChO.trans (hb31.mono ChO.size)
    replace ChB := ChB.trans (hb31.mono ChB.size)
    replace ChR := ChR.trans (hb31.mono ChR.size)
    replace ChP := ChP.trans (hb31.mono ChP.size)
    replace ChL := ChL.trans (hb31.mono ChL.size)
    replace ChH := ChH.trans (hb31.mono ChH.size)
    replace ChV := ChV.trans (hb31.mono ChV.size)
    clear hb31
    by_cases h5 : (5 : Int) < (cc : Int)
    · go_wp2_with fail
      go_ret
      exact ⟨rfl, HB.alloc HB.size _⟩
    · have h6 : (5 : Int) < (rr : Int) := by omega
      go_wp2_with fail
      go_ret
      exact ⟨rfl, HB.alloc HB.size _⟩
    replace HB := HB.trans (hb31.mono HB.size)
    clear cM0 cM1 cM2 cMl
    replace xM := xM.below hb31 xM.lt
    have cM0 := xM.cell 0
    have cM1 := xM.cell 1
    have cM2 := xM.cell 2
    simp at cM0 cM1 cM2
    have cMl := xM.lt
    replace ChM := ChM.trans (hb31.mono ChM.size)
    replace ChO := ChO.trans (hb31.mono ChO.size)
    replace ChB := ChB.trans (hb31.mono ChB.size)
    replace ChR := ChR.trans (hb31.mono ChR.size)
    replace ChP := ChP.trans (hb31.mono ChP.size)
    replace ChL := ChL.trans (hb31.mono ChL.size)
    replace ChH := ChH.trans (hb31.mono ChH.size)
    replace ChV := ChV.trans (hb31.mono ChV.size)
    have SF := Lib.hid ownF.sl
    have ChF := Below.refl w31.heap.size w31
    clear ownF hb31
    have OKF := Lib.hid (ref_ok RO)
    clear RO
    simp only [Int.toNat_natCast] at SF OKF ⊢
    have h2 := ref_idx (c := cc) (r := rr) (i := a) (k := b) (by omega) (by omega) (by omega)
    have hat := ref_at (c := cc) (i := a) (k := b) (l := L) (by omega) (by omega)
    rw [HXX.out] at hat
    have hn81 := mesh_nm OKF.out
    obtain ⟨N2, hN2⟩ : ∃ N2, (2 * rr - 1) * (2 * cc - 1) = N2 := ⟨_, rfl⟩
    rw [hN2] at SF OKF h2 hn81 ⊢
    clear hN2
    have hj : 2 * (b : Int) * (2 * (cc : Int) - 1) + 2 * (a : Int) = ((2 * b * (2 * cc - 1) + 2 * a : Nat) : Int) := by rw [Int.natCast_add, Int.natCast_mul, show ((2 * cc - 1 : Nat) : Int) = 2 * (cc : Int) - 1 by omega, Int.natCast_mul, Int.natCast_mul]; rfl
    obtain ⟨j2, hj2⟩ : ∃ j2, 2 * b * (2 * cc - 1) + 2 * a = j2 := ⟨_, rfl⟩
    rw [hj2] at hj h2 hat
    clear hj2
    have HAT := Lib.hid hat
    have HJ := Lib.hid hj
    clear hat hj
    go_wp2_with fail
    generalize hV : World.alloc _ _ = w32
    have hb32 := bl_alloc hV
    have xF := kl_alloc hV
    clear hV
    replace HB := HB.trans (hb32.mono HB.size)
    clear cM0 cM1 cM2 cMl
    replace xM := xM.below hb32 xM.lt
    have cM0 := xM.cell 0
    have cM1 := xM.cell 1
    have cM2 := xM.cell 2
    simp at cM0 cM1 cM2
    have cMl := xM.lt
    replace ChM := ChM.trans (hb32.mono ChM.size)
    replace ChO := ChO.trans (hb32.mono ChO.size)
    replace ChB := ChB.trans (hb32.mono ChB.size)
    replace ChR := ChR.trans (hb32.mono ChR.size)
    replace ChP := ChP.trans (hb32.mono ChP.size)
    replace ChL := ChL.trans (hb32.mono ChL.size)
    replace ChH := ChH.trans (hb32.mono ChH.size)
    replace ChV := ChV.trans (hb32.mono ChV.size)
    replace ChF := ChF.trans (hb32.mono ChF.size)
    clear hb32
    have cF0 := xF.cell 0
    have cF1 := xF.cell 1
    have cF2 := xF.cell 2
    simp at cF0 cF1 cF2
    have cFl := xF.lt
    go_wp2_with fail
    have hw : wrap64 (wrap64 (2 * (b : Int) * (2 * (cc : Int) - 1)) + 2 * (a : Int)) = (j2 : Int) := by have := HJ.out; rw [wrap64_small (x := 2 * (b : Int) * (2 * (cc : Int) - 1)) (by omega), HJ.out]; exact wrap64_small (by omega)
    rw [hw]
    clear hw
    have wr1 : IntKind.i64.wrap ((b : Int) * (cc : Int)) = (b : Int) * (cc : Int) := by have := HIX.out; rw [IntKind.wrap_i64]; omega
    have wr2 : IntKind.i64.wrap ((b : Int) * (cc : Int) + (a : Int)) = (ix : Int) := by rw [HIX.out, IntKind.wrap_i64]; omega
    obtain ⟨Bs2, offs2, he, hBs, hcs⟩ := (SM.out.below ChM) (by omega)
    cases he
    have z0 := hcs (ix * 2) (by omega)
    have z1 := hcs (ix * 2 + 1) (by omega)
    rw [SpotC0] at z0
    rw [SpotC1, ← Nat.add_assoc] at z1
    obtain ⟨Bf, off2, rfl, hBf, hcf⟩ := (SF.out.below ChF) (by omega)
    have y0 := hcf (j2 * 2) (by omega)
    have y1 := hcf (j2 * 2 + 1) (by omega)
    rw [SpotC0, HAT.out] at y0
    rw [SpotC1, HAT.out, ← Nat.add_assoc] at y1
    clear hcs hcf
    have hlt2 : (j2 : Int) < (N2 : Int) := by omega
    have hlt3 : (0 : Int) ≤ (j2 : Int) := by omega
    have hq := spotEq
    have SFH := Lib.hid (SF.out.below ChF)
    refine wp_region_ext (by kernel_rfl) (by kernel_rfl) ?_
    repeat (go_big_quiet_step ((first | (go_at_call 53; exact quiet_ext (valid_is _ OKF.out (SFH.out.below (ExtW.below _)))))))
    refine wpQuiet_nil ?_
    intro e33
    have hb33 := e33.below
    generalize e33.val = w33 at *
    replace HB := HB.trans (hb33.mono HB.size)
    go_wp2_with fail
    go_ret
    exact ⟨rfl, HB⟩
end Go.Proofs.YthjllledhcfnhaaDoor
