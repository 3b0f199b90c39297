/- FnExactRefineMesh returns true at every input: the walk. No condition beyond those that every argument meets. -/
import Derived.Test.YtddcbieomklhnaaRefineImpl
import Derived.Test.YtddcbieomklhnaaSMesh
import Derived.Deep.RegionHeld3
import Derived.Deep.DeepCutAuto
namespace Go.Proofs.Ytddcbieomklhnaa
open Go.RowKit Go.Lib Go.Ks
set_option linter.unusedVariables false
set_option maxRecDepth 100000 in
set_option maxHeartbeats 4000000 in
theorem lawRefineMesh (C0 R0 : Int) (A0 : Option Addr) (n0 c0 : Nat) (l0 : Nat → SpotD) (w : World) (yc0 : -9223372036854775808 ≤ C0 ∧ C0 ≤ 9223372036854775807) (yr0 : -9223372036854775808 ≤ R0 ∧ R0 ≤ 9223372036854775807) (b0 : n0 ≤ 9223372036854775807) (s0 : Sl w A0 (n0 * 2) (SpotC l0)) (g0 : ∀ k, k < n0 → SpotOk (l0 k)) :
    Calls Try.prog 8 #[.agg #[.int .i64 C0, .int .i64 R0, .slice A0 n0 c0]] w fun e w' => e = .returned (.bool true) ∧ Below w.heap.size w w' := by
  have D0 := Below.refl w.heap.size w
  go_enter Try.func8, Try.ntmps8
  go_wp2_with fail
  generalize hW1 : (w.alloc (.cells #[.int .i64 C0, .int .i64 R0, .slice A0 n0 c0] 24)) = w1
  have H1 : Below w.heap.size w w1 := by rw [← hW1]; repeat (first | with_reducible exact Below.refl _ _ | with_reducible assumption | with_reducible refine Below.setCell ?_ (by simp <;> omega) _ | with_reducible refine Below.alloc ?_ (by simp <;> omega) _ | with_reducible refine Below.drew ?_)
  have a0x1 : Blk w1 (w.heap.size) 24 #[.int .i64 C0, .int .i64 R0, .slice A0 n0 c0] := by rw [← hW1]; exact Blk.new w 24 #[.int .i64 C0, .int .i64 R0, .slice A0 n0 c0]
  clear hW1
  have D1 := D0.trans (H1.mono D0.size)
  have z1 := H1.size
  have a0f1_0 : w1.cell? ⟨w.heap.size, 0, none⟩ = some (.int .i64 C0) := a0x1.cell 0
  have a0f1_1 : w1.cell? ⟨w.heap.size, 1, none⟩ = some (.int .i64 R0) := a0x1.cell 1
  have a0f1_2 : w1.cell? ⟨w.heap.size, 2, none⟩ = some (.slice A0 n0 c0) := a0x1.cell 2
  have a0l1 := a0x1.lt
  refine (szMesh_any C0 R0 _ _ _ _ b0 (by omega) (by omega) _).mono ?_
  rintro e w2 ⟨⟨r2, rfl, hr2⟩, H2⟩
  have D2 := D1.trans (H2.mono D1.size)
  have z2 := H2.size
  have a0x2 := blk_step a0x1 H2
  clear a0f1_0 a0f1_1 a0f1_2
  have a0f2_0 : w2.cell? ⟨w.heap.size, 0, none⟩ = some (.int .i64 C0) := a0x2.cell 0
  have a0f2_1 : w2.cell? ⟨w.heap.size, 1, none⟩ = some (.int .i64 R0) := a0x2.cell 1
  have a0f2_2 : w2.cell? ⟨w.heap.size, 2, none⟩ = some (.slice A0 n0 c0) := a0x2.cell 2
  clear a0l1
  have a0l2 := a0x2.lt
  rcases hr2 with rfl | ⟨d2a, d2b, d2c⟩
  · go_wp2_with fail
    go_ret
    exact ⟨rfl, D2⟩
  have m0 : n0 ≤ 1048576 := by omega
  have mm := mRefineMesh_len C0 R0 n0 l0
  go_wp2_with fail
  refine (toMesh_any C0 R0 A0 n0 c0 l0 _ m0 (s0.below D2)).mono ?_
  rintro e w3 ⟨⟨Bu0, rfl, hB3, t3⟩, H3⟩
  have D3 := D2.trans (H3.mono D2.size)
  have z3 := H3.size
  have a0x3 := blk_step a0x2 H3
  clear a0f2_0 a0f2_1 a0f2_2
  have a0f3_0 : w3.cell? ⟨w.heap.size, 0, none⟩ = some (.int .i64 C0) := a0x3.cell 0
  have a0f3_1 : w3.cell? ⟨w.heap.size, 1, none⟩ = some (.int .i64 R0) := a0x3.cell 1
  have a0f3_2 : w3.cell? ⟨w.heap.size, 2, none⟩ = some (.slice A0 n0 c0) := a0x3.cell 2
  clear a0l2
  have a0l3 := a0x3.lt
  have u0o3 := Own.blk (base := w2.heap.size) (size := 2) t3 hB3 (Nat.le_refl (n0 * 2)) (fun _ _ => rfl)
  have u0U := u0o3.und
  have u0O := u0o3.over
  go_wp2_with fail
  refine (specRefineMesh_any C0 R0 _ n0 _ l0 _ m0 u0o3.sl g0).mono ?_
  rintro e w4 ⟨⟨AW, cW, rfl, oW, iW⟩, H4⟩
  have D4 := D3.trans (H4.mono D3.size)
  have z4 := H4.size
  have u0o4 := u0o3.below H4
  have a0x4 := blk_step a0x3 H4
  clear a0f3_0 a0f3_1 a0f3_2
  have a0f4_0 : w4.cell? ⟨w.heap.size, 0, none⟩ = some (.int .i64 C0) := a0x4.cell 0
  have a0f4_1 : w4.cell? ⟨w.heap.size, 1, none⟩ = some (.int .i64 R0) := a0x4.cell 1
  have a0f4_2 : w4.cell? ⟨w.heap.size, 2, none⟩ = some (.slice A0 n0 c0) := a0x4.cell 2
  clear a0l3
  have a0l4 := a0x4.lt
  have WU := oW.und
  have WO := oW.over
  go_wp2_with fail
  generalize hW5 : (w4.alloc (.cells #[.int .i64 (mRefineMeshA C0 R0 n0 l0), .int .i64 (mRefineMeshB C0 R0 n0 l0), .slice AW (mRefineMeshN C0 R0 n0 l0) cW] 29)) = w5
  have H5 : Below w4.heap.size w4 w5 := by rw [← hW5]; repeat (first | with_reducible exact Below.refl _ _ | with_reducible assumption | with_reducible refine Below.setCell ?_ (by simp <;> omega) _ | with_reducible refine Below.alloc ?_ (by simp <;> omega) _ | with_reducible refine Below.drew ?_)
  have W0x5 : Blk w5 (w4.heap.size) 29 #[.int .i64 (mRefineMeshA C0 R0 n0 l0), .int .i64 (mRefineMeshB C0 R0 n0 l0), .slice AW (mRefineMeshN C0 R0 n0 l0) cW] := by rw [← hW5]; exact Blk.new w4 29 #[.int .i64 (mRefineMeshA C0 R0 n0 l0), .int .i64 (mRefineMeshB C0 R0 n0 l0), .slice AW (mRefineMeshN C0 R0 n0 l0) cW]
  clear hW5
  have D5 := D4.trans (H5.mono D4.size)
  have z5 := H5.size
  have Wo5 := oW.below H5
  have a0x5 := blk_step a0x4 H5
  clear a0f4_0 a0f4_1 a0f4_2
  have a0f5_0 : w5.cell? ⟨w.heap.size, 0, none⟩ = some (.int .i64 C0) := a0x5.cell 0
  have a0f5_1 : w5.cell? ⟨w.heap.size, 1, none⟩ = some (.int .i64 R0) := a0x5.cell 1
  have a0f5_2 : w5.cell? ⟨w.heap.size, 2, none⟩ = some (.slice A0 n0 c0) := a0x5.cell 2
  clear a0l4
  have a0l5 := a0x5.lt
  have W0f5_0 : w5.cell? ⟨w4.heap.size, 0, none⟩ = some (.int .i64 (mRefineMeshA C0 R0 n0 l0)) := W0x5.cell 0
  have W0f5_1 : w5.cell? ⟨w4.heap.size, 1, none⟩ = some (.int .i64 (mRefineMeshB C0 R0 n0 l0)) := W0x5.cell 1
  have W0f5_2 : w5.cell? ⟨w4.heap.size, 2, none⟩ = some (.slice AW (mRefineMeshN C0 R0 n0 l0) cW) := W0x5.cell 2
  have W0l5 := W0x5.lt
  refine (toMesh_any C0 R0 A0 n0 c0 l0 _ m0 (s0.below D5)).mono ?_
  rintro e w6 ⟨⟨Bx0, rfl, hB6, t6⟩, H6⟩
  have D6 := D5.trans (H6.mono D5.size)
  have z6 := H6.size
  have Wo6 := Wo5.below H6
  have a0x6 := blk_step a0x5 H6
  have W0x6 := blk_step W0x5 H6
  clear a0f5_0 a0f5_1 a0f5_2
  have a0f6_0 : w6.cell? ⟨w.heap.size, 0, none⟩ = some (.int .i64 C0) := a0x6.cell 0
  have a0f6_1 : w6.cell? ⟨w.heap.size, 1, none⟩ = some (.int .i64 R0) := a0x6.cell 1
  have a0f6_2 : w6.cell? ⟨w.heap.size, 2, none⟩ = some (.slice A0 n0 c0) := a0x6.cell 2
  clear a0l5
  have a0l6 := a0x6.lt
  clear W0f5_0 W0f5_1 W0f5_2
  have W0f6_0 : w6.cell? ⟨w4.heap.size, 0, none⟩ = some (.int .i64 (mRefineMeshA C0 R0 n0 l0)) := W0x6.cell 0
  have W0f6_1 : w6.cell? ⟨w4.heap.size, 1, none⟩ = some (.int .i64 (mRefineMeshB C0 R0 n0 l0)) := W0x6.cell 1
  have W0f6_2 : w6.cell? ⟨w4.heap.size, 2, none⟩ = some (.slice AW (mRefineMeshN C0 R0 n0 l0) cW) := W0x6.cell 2
  clear W0l5
  have W0l6 := W0x6.lt
  have x0o6 := Own.blk (base := w5.heap.size) (size := 2) t6 hB6 (Nat.le_refl (n0 * 2)) (fun _ _ => rfl)
  have x0U := x0o6.und
  have x0O := x0o6.over
  go_wp2_with fail
  generalize hW7 : (w6.alloc (.cells #[.int .i64 C0, .int .i64 R0, .slice (some ⟨Bx0, 0, none⟩) n0 n0] 29)) = w7
  have H7 : Below w6.heap.size w6 w7 := by rw [← hW7]; repeat (first | with_reducible exact Below.refl _ _ | with_reducible assumption | with_reducible refine Below.setCell ?_ (by simp <;> omega) _ | with_reducible refine Below.alloc ?_ (by simp <;> omega) _ | with_reducible refine Below.drew ?_)
  have x0x7 : Blk w7 (w6.heap.size) 29 #[.int .i64 C0, .int .i64 R0, .slice (some ⟨Bx0, 0, none⟩) n0 n0] := by rw [← hW7]; exact Blk.new w6 29 #[.int .i64 C0, .int .i64 R0, .slice (some ⟨Bx0, 0, none⟩) n0 n0]
  clear hW7
  have D7 := D6.trans (H7.mono D6.size)
  have z7 := H7.size
  have Wo7 := Wo6.below H7
  have x0o7 := x0o6.below H7
  have a0x7 := blk_step a0x6 H7
  have W0x7 := blk_step W0x6 H7
  clear a0f6_0 a0f6_1 a0f6_2
  have a0f7_0 : w7.cell? ⟨w.heap.size, 0, none⟩ = some (.int .i64 C0) := a0x7.cell 0
  have a0f7_1 : w7.cell? ⟨w.heap.size, 1, none⟩ = some (.int .i64 R0) := a0x7.cell 1
  have a0f7_2 : w7.cell? ⟨w.heap.size, 2, none⟩ = some (.slice A0 n0 c0) := a0x7.cell 2
  clear a0l6
  have a0l7 := a0x7.lt
  clear W0f6_0 W0f6_1 W0f6_2
  have W0f7_0 : w7.cell? ⟨w4.heap.size, 0, none⟩ = some (.int .i64 (mRefineMeshA C0 R0 n0 l0)) := W0x7.cell 0
  have W0f7_1 : w7.cell? ⟨w4.heap.size, 1, none⟩ = some (.int .i64 (mRefineMeshB C0 R0 n0 l0)) := W0x7.cell 1
  have W0f7_2 : w7.cell? ⟨w4.heap.size, 2, none⟩ = some (.slice AW (mRefineMeshN C0 R0 n0 l0) cW) := W0x7.cell 2
  clear W0l6
  have W0l7 := W0x7.lt
  have x0f7_0 : w7.cell? ⟨w6.heap.size, 0, none⟩ = some (.int .i64 C0) := x0x7.cell 0
  have x0f7_1 : w7.cell? ⟨w6.heap.size, 1, none⟩ = some (.int .i64 R0) := x0x7.cell 1
  have x0f7_2 : w7.cell? ⟨w6.heap.size, 2, none⟩ = some (.slice (some ⟨Bx0, 0, none⟩) n0 n0) := x0x7.cell 2
  have x0l7 := x0x7.lt
  refine (implRefineMesh_any C0 R0 _ n0 _ l0 _ m0 x0o7.sl g0).mono ?_
  rintro e w8 ⟨⟨AG, cG, rfl, oG, iG⟩, H8⟩
  have D8 := D7.trans (H8.mono D7.size)
  have z8 := H8.size
  have Wo8 := Wo7.below H8
  have x0o8 := x0o7.below H8
  have a0x8 := blk_step a0x7 H8
  have W0x8 := blk_step W0x7 H8
  have x0x8 := blk_step x0x7 H8
  clear a0f7_0 a0f7_1 a0f7_2
  have a0f8_0 : w8.cell? ⟨w.heap.size, 0, none⟩ = some (.int .i64 C0) := a0x8.cell 0
  have a0f8_1 : w8.cell? ⟨w.heap.size, 1, none⟩ = some (.int .i64 R0) := a0x8.cell 1
  have a0f8_2 : w8.cell? ⟨w.heap.size, 2, none⟩ = some (.slice A0 n0 c0) := a0x8.cell 2
  clear a0l7
  have a0l8 := a0x8.lt
  clear W0f7_0 W0f7_1 W0f7_2
  have W0f8_0 : w8.cell? ⟨w4.heap.size, 0, none⟩ = some (.int .i64 (mRefineMeshA C0 R0 n0 l0)) := W0x8.cell 0
  have W0f8_1 : w8.cell? ⟨w4.heap.size, 1, none⟩ = some (.int .i64 (mRefineMeshB C0 R0 n0 l0)) := W0x8.cell 1
  have W0f8_2 : w8.cell? ⟨w4.heap.size, 2, none⟩ = some (.slice AW (mRefineMeshN C0 R0 n0 l0) cW) := W0x8.cell 2
  clear W0l7
  have W0l8 := W0x8.lt
  clear x0f7_0 x0f7_1 x0f7_2
  have x0f8_0 : w8.cell? ⟨w6.heap.size, 0, none⟩ = some (.int .i64 C0) := x0x8.cell 0
  have x0f8_1 : w8.cell? ⟨w6.heap.size, 1, none⟩ = some (.int .i64 R0) := x0x8.cell 1
  have x0f8_2 : w8.cell? ⟨w6.heap.size, 2, none⟩ = some (.slice (some ⟨Bx0, 0, none⟩) n0 n0) := x0x8.cell 2
  clear x0l7
  have x0l8 := x0x8.lt
  have GU := oG.und
  have GO := oG.over
  go_wp2_with fail
  generalize hW9 : (w8.alloc (.cells #[.int .i64 (mRefineMeshA C0 R0 n0 l0), .int .i64 (mRefineMeshB C0 R0 n0 l0), .slice AG (mRefineMeshN C0 R0 n0 l0) cG] 29)) = w9
  have H9 : Below w8.heap.size w8 w9 := by rw [← hW9]; repeat (first | with_reducible exact Below.refl _ _ | with_reducible assumption | with_reducible refine Below.setCell ?_ (by simp <;> omega) _ | with_reducible refine Below.alloc ?_ (by simp <;> omega) _ | with_reducible refine Below.drew ?_)
  have G0x9 : Blk w9 (w8.heap.size) 29 #[.int .i64 (mRefineMeshA C0 R0 n0 l0), .int .i64 (mRefineMeshB C0 R0 n0 l0), .slice AG (mRefineMeshN C0 R0 n0 l0) cG] := by rw [← hW9]; exact Blk.new w8 29 #[.int .i64 (mRefineMeshA C0 R0 n0 l0), .int .i64 (mRefineMeshB C0 R0 n0 l0), .slice AG (mRefineMeshN C0 R0 n0 l0) cG]
  clear hW9
  have D9 := D8.trans (H9.mono D8.size)
  have z9 := H9.size
  have Wo9 := Wo8.below H9
  have x0o9 := x0o8.below H9
  have Go9 := oG.below H9
  have a0x9 := blk_step a0x8 H9
  have W0x9 := blk_step W0x8 H9
  have x0x9 := blk_step x0x8 H9
  clear a0f8_0 a0f8_1 a0f8_2
  have a0f9_0 : w9.cell? ⟨w.heap.size, 0, none⟩ = some (.int .i64 C0) := a0x9.cell 0
  have a0f9_1 : w9.cell? ⟨w.heap.size, 1, none⟩ = some (.int .i64 R0) := a0x9.cell 1
  have a0f9_2 : w9.cell? ⟨w.heap.size, 2, none⟩ = some (.slice A0 n0 c0) := a0x9.cell 2
  clear a0l8
  have a0l9 := a0x9.lt
  clear W0f8_0 W0f8_1 W0f8_2
  have W0f9_0 : w9.cell? ⟨w4.heap.size, 0, none⟩ = some (.int .i64 (mRefineMeshA C0 R0 n0 l0)) := W0x9.cell 0
  have W0f9_1 : w9.cell? ⟨w4.heap.size, 1, none⟩ = some (.int .i64 (mRefineMeshB C0 R0 n0 l0)) := W0x9.cell 1
  have W0f9_2 : w9.cell? ⟨w4.heap.size, 2, none⟩ = some (.slice AW (mRefineMeshN C0 R0 n0 l0) cW) := W0x9.cell 2
  clear W0l8
  have W0l9 := W0x9.lt
  clear x0f8_0 x0f8_1 x0f8_2
  have x0f9_0 : w9.cell? ⟨w6.heap.size, 0, none⟩ = some (.int .i64 C0) := x0x9.cell 0
  have x0f9_1 : w9.cell? ⟨w6.heap.size, 1, none⟩ = some (.int .i64 R0) := x0x9.cell 1
  have x0f9_2 : w9.cell? ⟨w6.heap.size, 2, none⟩ = some (.slice (some ⟨Bx0, 0, none⟩) n0 n0) := x0x9.cell 2
  clear x0l8
  have x0l9 := x0x9.lt
  have G0f9_0 : w9.cell? ⟨w8.heap.size, 0, none⟩ = some (.int .i64 (mRefineMeshA C0 R0 n0 l0)) := G0x9.cell 0
  have G0f9_1 : w9.cell? ⟨w8.heap.size, 1, none⟩ = some (.int .i64 (mRefineMeshB C0 R0 n0 l0)) := G0x9.cell 1
  have G0f9_2 : w9.cell? ⟨w8.heap.size, 2, none⟩ = some (.slice AG (mRefineMeshN C0 R0 n0 l0) cG) := G0x9.cell 2
  have G0l9 := G0x9.lt
  refine (eqMesh_yes (mRefineMeshA C0 R0 n0 l0) (mRefineMeshB C0 R0 n0 l0) _ _ (mRefineMeshN C0 R0 n0 l0) _ _ (mRefineMeshL C0 R0 n0 l0) _ (by omega) Go9.sl Wo9.sl).mono ?_
  rintro e w10 ⟨rfl, H10⟩
  have D10 := D9.trans (H10.mono D9.size)
  have z10 := H10.size
  have Wo10 := Wo9.below H10
  have x0o10 := x0o9.below H10
  have Go10 := Go9.below H10
  have a0x10 := blk_step a0x9 H10
  have W0x10 := blk_step W0x9 H10
  have x0x10 := blk_step x0x9 H10
  have G0x10 := blk_step G0x9 H10
  clear a0f9_0 a0f9_1 a0f9_2
  have a0f10_0 : w10.cell? ⟨w.heap.size, 0, none⟩ = some (.int .i64 C0) := a0x10.cell 0
  have a0f10_1 : w10.cell? ⟨w.heap.size, 1, none⟩ = some (.int .i64 R0) := a0x10.cell 1
  have a0f10_2 : w10.cell? ⟨w.heap.size, 2, none⟩ = some (.slice A0 n0 c0) := a0x10.cell 2
  clear a0l9
  have a0l10 := a0x10.lt
  clear W0f9_0 W0f9_1 W0f9_2
  have W0f10_0 : w10.cell? ⟨w4.heap.size, 0, none⟩ = some (.int .i64 (mRefineMeshA C0 R0 n0 l0)) := W0x10.cell 0
  have W0f10_1 : w10.cell? ⟨w4.heap.size, 1, none⟩ = some (.int .i64 (mRefineMeshB C0 R0 n0 l0)) := W0x10.cell 1
  have W0f10_2 : w10.cell? ⟨w4.heap.size, 2, none⟩ = some (.slice AW (mRefineMeshN C0 R0 n0 l0) cW) := W0x10.cell 2
  clear W0l9
  have W0l10 := W0x10.lt
  clear x0f9_0 x0f9_1 x0f9_2
  have x0f10_0 : w10.cell? ⟨w6.heap.size, 0, none⟩ = some (.int .i64 C0) := x0x10.cell 0
  have x0f10_1 : w10.cell? ⟨w6.heap.size, 1, none⟩ = some (.int .i64 R0) := x0x10.cell 1
  have x0f10_2 : w10.cell? ⟨w6.heap.size, 2, none⟩ = some (.slice (some ⟨Bx0, 0, none⟩) n0 n0) := x0x10.cell 2
  clear x0l9
  have x0l10 := x0x10.lt
  clear G0f9_0 G0f9_1 G0f9_2
  have G0f10_0 : w10.cell? ⟨w8.heap.size, 0, none⟩ = some (.int .i64 (mRefineMeshA C0 R0 n0 l0)) := G0x10.cell 0
  have G0f10_1 : w10.cell? ⟨w8.heap.size, 1, none⟩ = some (.int .i64 (mRefineMeshB C0 R0 n0 l0)) := G0x10.cell 1
  have G0f10_2 : w10.cell? ⟨w8.heap.size, 2, none⟩ = some (.slice AG (mRefineMeshN C0 R0 n0 l0) cG) := G0x10.cell 2
  clear G0l9
  have G0l10 := G0x10.lt
  go_wp2_with fail
  go_cut [45] (fun s45 wr => s45 = .bool false ∧ Below w10.heap.size w10 wr)
  case first =>
    have ks : ∀ w' : World, Below w10.heap.size w10 w' → w'.cell? ⟨w.heap.size, 0, none⟩ = some (.int .i64 C0) ∧ w'.cell? ⟨w.heap.size, 1, none⟩ = some (.int .i64 R0) ∧ w'.cell? ⟨w.heap.size, 2, none⟩ = some (.slice A0 n0 c0) ∧ w'.cell? ⟨w4.heap.size, 0, none⟩ = some (.int .i64 (mRefineMeshA C0 R0 n0 l0)) ∧ w'.cell? ⟨w4.heap.size, 1, none⟩ = some (.int .i64 (mRefineMeshB C0 R0 n0 l0)) ∧ w'.cell? ⟨w4.heap.size, 2, none⟩ = some (.slice AW (mRefineMeshN C0 R0 n0 l0) cW) ∧ w'.cell? ⟨w6.heap.size, 0, none⟩ = some (.int .i64 C0) ∧ w'.cell? ⟨w6.heap.size, 1, none⟩ = some (.int .i64 R0) ∧ w'.cell? ⟨w6.heap.size, 2, none⟩ = some (.slice (some ⟨Bx0, 0, none⟩) n0 n0) ∧ w'.cell? ⟨w8.heap.size, 0, none⟩ = some (.int .i64 (mRefineMeshA C0 R0 n0 l0)) ∧ w'.cell? ⟨w8.heap.size, 1, none⟩ = some (.int .i64 (mRefineMeshB C0 R0 n0 l0)) ∧ w'.cell? ⟨w8.heap.size, 2, none⟩ = some (.slice AG (mRefineMeshN C0 R0 n0 l0) cG) := fun w' h => ⟨(Blk.below a0x10 h a0x10.lt).cell 0, (Blk.below a0x10 h a0x10.lt).cell 1, (Blk.below a0x10 h a0x10.lt).cell 2, (Blk.below W0x10 h W0x10.lt).cell 0, (Blk.below W0x10 h W0x10.lt).cell 1, (Blk.below W0x10 h W0x10.lt).cell 2, (Blk.below x0x10 h x0x10.lt).cell 0, (Blk.below x0x10 h x0x10.lt).cell 1, (Blk.below x0x10 h x0x10.lt).cell 2, (Blk.below G0x10 h G0x10.lt).cell 0, (Blk.below G0x10 h G0x10.lt).cell 1, (Blk.below G0x10 h G0x10.lt).cell 2⟩
    have KS := Lib.hid ks
    clear ks
    go_region_held3 (fun w' => w'.cell? ⟨w.heap.size, 0, none⟩ = some (.int .i64 C0) ∧ w'.cell? ⟨w.heap.size, 1, none⟩ = some (.int .i64 R0) ∧ w'.cell? ⟨w.heap.size, 2, none⟩ = some (.slice A0 n0 c0) ∧ w'.cell? ⟨w4.heap.size, 0, none⟩ = some (.int .i64 (mRefineMeshA C0 R0 n0 l0)) ∧ w'.cell? ⟨w4.heap.size, 1, none⟩ = some (.int .i64 (mRefineMeshB C0 R0 n0 l0)) ∧ w'.cell? ⟨w4.heap.size, 2, none⟩ = some (.slice AW (mRefineMeshN C0 R0 n0 l0) cW) ∧ w'.cell? ⟨w6.heap.size, 0, none⟩ = some (.int .i64 C0) ∧ w'.cell? ⟨w6.heap.size, 1, none⟩ = some (.int .i64 R0) ∧ w'.cell? ⟨w6.heap.size, 2, none⟩ = some (.slice (some ⟨Bx0, 0, none⟩) n0 n0) ∧ w'.cell? ⟨w8.heap.size, 0, none⟩ = some (.int .i64 (mRefineMeshA C0 R0 n0 l0)) ∧ w'.cell? ⟨w8.heap.size, 1, none⟩ = some (.int .i64 (mRefineMeshB C0 R0 n0 l0)) ∧ w'.cell? ⟨w8.heap.size, 2, none⟩ = some (.slice AG (mRefineMeshN C0 R0 n0 l0) cG))
      (exact KS.out _ (by repeat (first | with_reducible exact Below.refl _ _ | with_reducible assumption | with_reducible refine Below.setCell ?_ (by first | omega | (simp <;> omega)) _ | with_reducible refine Below.alloc ?_ (by first | omega | (simp <;> omega)) _ | with_reducible refine Below.drew ?_)))
      (first
      | (go_at_call 17; refine (toMesh_any C0 R0 A0 n0 c0 l0 _ m0 (s0.below (by repeat (first | with_reducible exact Below.refl _ _ | with_reducible assumption | with_reducible refine Below.setCell ?_ (by first | omega | (simp <;> omega)) _ | with_reducible refine Below.alloc ?_ (by first | omega | (simp <;> omega)) _ | with_reducible refine Below.drew ?_)))).mono ?_; rintro e v0_0 ⟨⟨Be0, rfl, he0, te0⟩, F0_0⟩; have E0_0 : Below w10.heap.size w10 v0_0 := below_then (by repeat (first | with_reducible exact Below.refl _ _ | with_reducible assumption | with_reducible refine Below.setCell ?_ (by first | omega | (simp <;> omega)) _ | with_reducible refine Below.alloc ?_ (by first | omega | (simp <;> omega)) _ | with_reducible refine Below.drew ?_)) F0_0; have DD0_0 := D10.trans (E0_0.mono D10.size); have ES0_0 := E0_0.size; have Oe0 := Own.blk (size := 2) te0 (Nat.zero_le _) (Nat.le_refl (n0 * 2)) (fun _ _ => rfl); have a0y0 := blk_then a0x10 (by repeat (first | with_reducible exact Below.refl _ _ | with_reducible assumption | with_reducible refine Below.setCell ?_ (by first | omega | (simp <;> omega)) _ | with_reducible refine Below.alloc ?_ (by first | omega | (simp <;> omega)) _ | with_reducible refine Below.drew ?_)) F0_0; have a0y0_0 : v0_0.cell? ⟨w.heap.size, 0, none⟩ = some (.int .i64 C0) := a0y0.cell 0; have a0y0_1 : v0_0.cell? ⟨w.heap.size, 1, none⟩ = some (.int .i64 R0) := a0y0.cell 1; have a0y0_2 : v0_0.cell? ⟨w.heap.size, 2, none⟩ = some (.slice A0 n0 c0) := a0y0.cell 2; have a0y0_l := a0y0.lt; have W0y0 := blk_then W0x10 (by repeat (first | with_reducible exact Below.refl _ _ | with_reducible assumption | with_reducible refine Below.setCell ?_ (by first | omega | (simp <;> omega)) _ | with_reducible refine Below.alloc ?_ (by first | omega | (simp <;> omega)) _ | with_reducible refine Below.drew ?_)) F0_0; have W0y0_0 : v0_0.cell? ⟨w4.heap.size, 0, none⟩ = some (.int .i64 (mRefineMeshA C0 R0 n0 l0)) := W0y0.cell 0; have W0y0_1 : v0_0.cell? ⟨w4.heap.size, 1, none⟩ = some (.int .i64 (mRefineMeshB C0 R0 n0 l0)) := W0y0.cell 1; have W0y0_2 : v0_0.cell? ⟨w4.heap.size, 2, none⟩ = some (.slice AW (mRefineMeshN C0 R0 n0 l0) cW) := W0y0.cell 2; have W0y0_l := W0y0.lt; have x0y0 := blk_then x0x10 (by repeat (first | with_reducible exact Below.refl _ _ | with_reducible assumption | with_reducible refine Below.setCell ?_ (by first | omega | (simp <;> omega)) _ | with_reducible refine Below.alloc ?_ (by first | omega | (simp <;> omega)) _ | with_reducible refine Below.drew ?_)) F0_0; have x0y0_0 : v0_0.cell? ⟨w6.heap.size, 0, none⟩ = some (.int .i64 C0) := x0y0.cell 0; have x0y0_1 : v0_0.cell? ⟨w6.heap.size, 1, none⟩ = some (.int .i64 R0) := x0y0.cell 1; have x0y0_2 : v0_0.cell? ⟨w6.heap.size, 2, none⟩ = some (.slice (some ⟨Bx0, 0, none⟩) n0 n0) := x0y0.cell 2; have x0y0_l := x0y0.lt; have G0y0 := blk_then G0x10 (by repeat (first | with_reducible exact Below.refl _ _ | with_reducible assumption | with_reducible refine Below.setCell ?_ (by first | omega | (simp <;> omega)) _ | with_reducible refine Below.alloc ?_ (by first | omega | (simp <;> omega)) _ | with_reducible refine Below.drew ?_)) F0_0; have G0y0_0 : v0_0.cell? ⟨w8.heap.size, 0, none⟩ = some (.int .i64 (mRefineMeshA C0 R0 n0 l0)) := G0y0.cell 0; have G0y0_1 : v0_0.cell? ⟨w8.heap.size, 1, none⟩ = some (.int .i64 (mRefineMeshB C0 R0 n0 l0)) := G0y0.cell 1; have G0y0_2 : v0_0.cell? ⟨w8.heap.size, 2, none⟩ = some (.slice AG (mRefineMeshN C0 R0 n0 l0) cG) := G0y0.cell 2; have G0y0_l := G0y0.lt)
      | (go_at_call 19; refine (eqMesh_yes C0 R0 _ _ n0 _ _ l0 _ (by omega) (x0o10.below (by repeat (first | with_reducible exact Below.refl _ _ | with_reducible assumption | with_reducible refine Below.setCell ?_ (by first | omega | (simp <;> omega)) _ | with_reducible refine Below.alloc ?_ (by first | omega | (simp <;> omega)) _ | with_reducible refine Below.drew ?_))).sl (Oe0.below (by repeat (first | with_reducible exact Below.refl _ _ | with_reducible assumption | with_reducible refine Below.setCell ?_ (by first | omega | (simp <;> omega)) _ | with_reducible refine Below.alloc ?_ (by first | omega | (simp <;> omega)) _ | with_reducible refine Below.drew ?_))).sl).mono ?_; rintro e v0_1 ⟨rfl, F0_1⟩; have E0_1 : Below w10.heap.size w10 v0_1 := below_then (by repeat (first | with_reducible exact Below.refl _ _ | with_reducible assumption | with_reducible refine Below.setCell ?_ (by first | omega | (simp <;> omega)) _ | with_reducible refine Below.alloc ?_ (by first | omega | (simp <;> omega)) _ | with_reducible refine Below.drew ?_)) F0_1; have DD0_1 := D10.trans (E0_1.mono D10.size); have ES0_1 := E0_1.size; (try replace Oe0 := (Oe0.below (by repeat (first | with_reducible exact Below.refl _ _ | with_reducible assumption | with_reducible refine Below.setCell ?_ (by first | omega | (simp <;> omega)) _ | with_reducible refine Below.alloc ?_ (by first | omega | (simp <;> omega)) _ | with_reducible refine Below.drew ?_))).below F0_1); have a0y1 := blk_then a0x10 (by repeat (first | with_reducible exact Below.refl _ _ | with_reducible assumption | with_reducible refine Below.setCell ?_ (by first | omega | (simp <;> omega)) _ | with_reducible refine Below.alloc ?_ (by first | omega | (simp <;> omega)) _ | with_reducible refine Below.drew ?_)) F0_1; have a0y1_0 : v0_1.cell? ⟨w.heap.size, 0, none⟩ = some (.int .i64 C0) := a0y1.cell 0; have a0y1_1 : v0_1.cell? ⟨w.heap.size, 1, none⟩ = some (.int .i64 R0) := a0y1.cell 1; have a0y1_2 : v0_1.cell? ⟨w.heap.size, 2, none⟩ = some (.slice A0 n0 c0) := a0y1.cell 2; have a0y1_l := a0y1.lt; have W0y1 := blk_then W0x10 (by repeat (first | with_reducible exact Below.refl _ _ | with_reducible assumption | with_reducible refine Below.setCell ?_ (by first | omega | (simp <;> omega)) _ | with_reducible refine Below.alloc ?_ (by first | omega | (simp <;> omega)) _ | with_reducible refine Below.drew ?_)) F0_1; have W0y1_0 : v0_1.cell? ⟨w4.heap.size, 0, none⟩ = some (.int .i64 (mRefineMeshA C0 R0 n0 l0)) := W0y1.cell 0; have W0y1_1 : v0_1.cell? ⟨w4.heap.size, 1, none⟩ = some (.int .i64 (mRefineMeshB C0 R0 n0 l0)) := W0y1.cell 1; have W0y1_2 : v0_1.cell? ⟨w4.heap.size, 2, none⟩ = some (.slice AW (mRefineMeshN C0 R0 n0 l0) cW) := W0y1.cell 2; have W0y1_l := W0y1.lt; have x0y1 := blk_then x0x10 (by repeat (first | with_reducible exact Below.refl _ _ | with_reducible assumption | with_reducible refine Below.setCell ?_ (by first | omega | (simp <;> omega)) _ | with_reducible refine Below.alloc ?_ (by first | omega | (simp <;> omega)) _ | with_reducible refine Below.drew ?_)) F0_1; have x0y1_0 : v0_1.cell? ⟨w6.heap.size, 0, none⟩ = some (.int .i64 C0) := x0y1.cell 0; have x0y1_1 : v0_1.cell? ⟨w6.heap.size, 1, none⟩ = some (.int .i64 R0) := x0y1.cell 1; have x0y1_2 : v0_1.cell? ⟨w6.heap.size, 2, none⟩ = some (.slice (some ⟨Bx0, 0, none⟩) n0 n0) := x0y1.cell 2; have x0y1_l := x0y1.lt; have G0y1 := blk_then G0x10 (by repeat (first | with_reducible exact Below.refl _ _ | with_reducible assumption | with_reducible refine Below.setCell ?_ (by first | omega | (simp <;> omega)) _ | with_reducible refine Below.alloc ?_ (by first | omega | (simp <;> omega)) _ | with_reducible refine Below.drew ?_)) F0_1; have G0y1_0 : v0_1.cell? ⟨w8.heap.size, 0, none⟩ = some (.int .i64 (mRefineMeshA C0 R0 n0 l0)) := G0y1.cell 0; have G0y1_1 : v0_1.cell? ⟨w8.heap.size, 1, none⟩ = some (.int .i64 (mRefineMeshB C0 R0 n0 l0)) := G0y1.cell 1; have G0y1_2 : v0_1.cell? ⟨w8.heap.size, 2, none⟩ = some (.slice AG (mRefineMeshN C0 R0 n0 l0) cG) := G0y1.cell 2; have G0y1_l := G0y1.lt))
    all_goals (try go_wp2_with fail)
    all_goals (go_meet; exact ⟨rfl, E0_1⟩)
  obtain ⟨rfl, H11⟩ := hcut
  obtain ⟨w11, rfl⟩ : ∃ q : World, q = wc := ⟨_, rfl⟩
  have D11 := D10.trans (H11.mono D10.size)
  have z11 := H11.size
  have Wo11 := Wo10.below H11
  have x0o11 := x0o10.below H11
  have Go11 := Go10.below H11
  have a0x11 := blk_step a0x10 H11
  have W0x11 := blk_step W0x10 H11
  have x0x11 := blk_step x0x10 H11
  have G0x11 := blk_step G0x10 H11
  clear a0f10_0 a0f10_1 a0f10_2
  have a0f11_0 : w11.cell? ⟨w.heap.size, 0, none⟩ = some (.int .i64 C0) := a0x11.cell 0
  have a0f11_1 : w11.cell? ⟨w.heap.size, 1, none⟩ = some (.int .i64 R0) := a0x11.cell 1
  have a0f11_2 : w11.cell? ⟨w.heap.size, 2, none⟩ = some (.slice A0 n0 c0) := a0x11.cell 2
  clear a0l10
  have a0l11 := a0x11.lt
  clear W0f10_0 W0f10_1 W0f10_2
  have W0f11_0 : w11.cell? ⟨w4.heap.size, 0, none⟩ = some (.int .i64 (mRefineMeshA C0 R0 n0 l0)) := W0x11.cell 0
  have W0f11_1 : w11.cell? ⟨w4.heap.size, 1, none⟩ = some (.int .i64 (mRefineMeshB C0 R0 n0 l0)) := W0x11.cell 1
  have W0f11_2 : w11.cell? ⟨w4.heap.size, 2, none⟩ = some (.slice AW (mRefineMeshN C0 R0 n0 l0) cW) := W0x11.cell 2
  clear W0l10
  have W0l11 := W0x11.lt
  clear x0f10_0 x0f10_1 x0f10_2
  have x0f11_0 : w11.cell? ⟨w6.heap.size, 0, none⟩ = some (.int .i64 C0) := x0x11.cell 0
  have x0f11_1 : w11.cell? ⟨w6.heap.size, 1, none⟩ = some (.int .i64 R0) := x0x11.cell 1
  have x0f11_2 : w11.cell? ⟨w6.heap.size, 2, none⟩ = some (.slice (some ⟨Bx0, 0, none⟩) n0 n0) := x0x11.cell 2
  clear x0l10
  have x0l11 := x0x11.lt
  clear G0f10_0 G0f10_1 G0f10_2
  have G0f11_0 : w11.cell? ⟨w8.heap.size, 0, none⟩ = some (.int .i64 (mRefineMeshA C0 R0 n0 l0)) := G0x11.cell 0
  have G0f11_1 : w11.cell? ⟨w8.heap.size, 1, none⟩ = some (.int .i64 (mRefineMeshB C0 R0 n0 l0)) := G0x11.cell 1
  have G0f11_2 : w11.cell? ⟨w8.heap.size, 2, none⟩ = some (.slice AG (mRefineMeshN C0 R0 n0 l0) cG) := G0x11.cell 2
  clear G0l10
  have G0l11 := G0x11.lt
  go_wp2_with fail
  refine (markMesh_any C0 R0 _ _ n0 _ 1 (SpotC l0) _ (by omega) (by omega) (by omega) x0o11 (fun h => by cases h)).mono ?_
  rintro e w12 ⟨rfl, G12, x0o12⟩
  have z12 := G12.size
  have Wo12 := Wo11.kept (fun a b ha hb => by have h1 := WU a ha; have h2 := x0O b hb; omega) G12
  have Go12 := Go11.kept (fun a b ha hb => by have h1 := GO a ha; have h2 := x0U b hb; omega) G12
  have a0x12 := blk_kept_own a0x11 x0o11 (by decide) G12
  have W0x12 := blk_kept_own W0x11 x0o11 (by decide) G12
  have x0x12 := blk_kept_own x0x11 x0o11 (by decide) G12
  have G0x12 := blk_kept_own G0x11 x0o11 (by decide) G12
  have D12 := Below.only D11 (fun ad h => by have h1 := x0O ad h; omega) D11.size G12
  clear a0f11_0 a0f11_1 a0f11_2
  have a0f12_0 : w12.cell? ⟨w.heap.size, 0, none⟩ = some (.int .i64 C0) := a0x12.cell 0
  have a0f12_1 : w12.cell? ⟨w.heap.size, 1, none⟩ = some (.int .i64 R0) := a0x12.cell 1
  have a0f12_2 : w12.cell? ⟨w.heap.size, 2, none⟩ = some (.slice A0 n0 c0) := a0x12.cell 2
  clear a0l11
  have a0l12 := a0x12.lt
  clear W0f11_0 W0f11_1 W0f11_2
  have W0f12_0 : w12.cell? ⟨w4.heap.size, 0, none⟩ = some (.int .i64 (mRefineMeshA C0 R0 n0 l0)) := W0x12.cell 0
  have W0f12_1 : w12.cell? ⟨w4.heap.size, 1, none⟩ = some (.int .i64 (mRefineMeshB C0 R0 n0 l0)) := W0x12.cell 1
  have W0f12_2 : w12.cell? ⟨w4.heap.size, 2, none⟩ = some (.slice AW (mRefineMeshN C0 R0 n0 l0) cW) := W0x12.cell 2
  clear W0l11
  have W0l12 := W0x12.lt
  clear x0f11_0 x0f11_1 x0f11_2
  have x0f12_0 : w12.cell? ⟨w6.heap.size, 0, none⟩ = some (.int .i64 C0) := x0x12.cell 0
  have x0f12_1 : w12.cell? ⟨w6.heap.size, 1, none⟩ = some (.int .i64 R0) := x0x12.cell 1
  have x0f12_2 : w12.cell? ⟨w6.heap.size, 2, none⟩ = some (.slice (some ⟨Bx0, 0, none⟩) n0 n0) := x0x12.cell 2
  clear x0l11
  have x0l12 := x0x12.lt
  clear G0f11_0 G0f11_1 G0f11_2
  have G0f12_0 : w12.cell? ⟨w8.heap.size, 0, none⟩ = some (.int .i64 (mRefineMeshA C0 R0 n0 l0)) := G0x12.cell 0
  have G0f12_1 : w12.cell? ⟨w8.heap.size, 1, none⟩ = some (.int .i64 (mRefineMeshB C0 R0 n0 l0)) := G0x12.cell 1
  have G0f12_2 : w12.cell? ⟨w8.heap.size, 2, none⟩ = some (.slice AG (mRefineMeshN C0 R0 n0 l0) cG) := G0x12.cell 2
  clear G0l11
  have G0l12 := G0x12.lt
  go_wp2_with fail
  refine (eqMesh_yes (mRefineMeshA C0 R0 n0 l0) (mRefineMeshB C0 R0 n0 l0) _ _ (mRefineMeshN C0 R0 n0 l0) _ _ (mRefineMeshL C0 R0 n0 l0) _ (by omega) Go12.sl Wo12.sl).mono ?_
  rintro e w13 ⟨rfl, H13⟩
  have D13 := D12.trans (H13.mono D12.size)
  have z13 := H13.size
  have Wo13 := Wo12.below H13
  have x0o13 := x0o12.below H13
  have Go13 := Go12.below H13
  have a0x13 := blk_step a0x12 H13
  have W0x13 := blk_step W0x12 H13
  have x0x13 := blk_step x0x12 H13
  have G0x13 := blk_step G0x12 H13
  clear a0f12_0 a0f12_1 a0f12_2
  have a0f13_0 : w13.cell? ⟨w.heap.size, 0, none⟩ = some (.int .i64 C0) := a0x13.cell 0
  have a0f13_1 : w13.cell? ⟨w.heap.size, 1, none⟩ = some (.int .i64 R0) := a0x13.cell 1
  have a0f13_2 : w13.cell? ⟨w.heap.size, 2, none⟩ = some (.slice A0 n0 c0) := a0x13.cell 2
  clear a0l12
  have a0l13 := a0x13.lt
  clear W0f12_0 W0f12_1 W0f12_2
  have W0f13_0 : w13.cell? ⟨w4.heap.size, 0, none⟩ = some (.int .i64 (mRefineMeshA C0 R0 n0 l0)) := W0x13.cell 0
  have W0f13_1 : w13.cell? ⟨w4.heap.size, 1, none⟩ = some (.int .i64 (mRefineMeshB C0 R0 n0 l0)) := W0x13.cell 1
  have W0f13_2 : w13.cell? ⟨w4.heap.size, 2, none⟩ = some (.slice AW (mRefineMeshN C0 R0 n0 l0) cW) := W0x13.cell 2
  clear W0l12
  have W0l13 := W0x13.lt
  clear x0f12_0 x0f12_1 x0f12_2
  have x0f13_0 : w13.cell? ⟨w6.heap.size, 0, none⟩ = some (.int .i64 C0) := x0x13.cell 0
  have x0f13_1 : w13.cell? ⟨w6.heap.size, 1, none⟩ = some (.int .i64 R0) := x0x13.cell 1
  have x0f13_2 : w13.cell? ⟨w6.heap.size, 2, none⟩ = some (.slice (some ⟨Bx0, 0, none⟩) n0 n0) := x0x13.cell 2
  clear x0l12
  have x0l13 := x0x13.lt
  clear G0f12_0 G0f12_1 G0f12_2
  have G0f13_0 : w13.cell? ⟨w8.heap.size, 0, none⟩ = some (.int .i64 (mRefineMeshA C0 R0 n0 l0)) := G0x13.cell 0
  have G0f13_1 : w13.cell? ⟨w8.heap.size, 1, none⟩ = some (.int .i64 (mRefineMeshB C0 R0 n0 l0)) := G0x13.cell 1
  have G0f13_2 : w13.cell? ⟨w8.heap.size, 2, none⟩ = some (.slice AG (mRefineMeshN C0 R0 n0 l0) cG) := G0x13.cell 2
  clear G0l12
  have G0l13 := G0x13.lt
  clear x0f13_0 x0f13_1 x0f13_2 x0l13
  go_wp2_with fail
  refine (markMesh_any (mRefineMeshA C0 R0 n0 l0) (mRefineMeshB C0 R0 n0 l0) _ _ (mRefineMeshN C0 R0 n0 l0) _ 1 (SpotC (mRefineMeshL C0 R0 n0 l0)) _ (by omega) (by omega) (by omega) Go13 iG).mono ?_
  rintro e w14 ⟨rfl, G14, Go14⟩
  have z14 := G14.size
  have Wo14 := Wo13.kept (fun a b ha hb => by have h1 := WU a ha; have h2 := GO b hb; omega) G14
  have a0x14 := blk_kept_own a0x13 Go13 (by decide) G14
  have W0x14 := blk_kept_own W0x13 Go13 (by decide) G14
  have G0x14 := blk_kept_own G0x13 Go13 (by decide) G14
  have D14 := Below.only D13 (fun ad h => by have h1 := GO ad h; omega) D13.size G14
  clear a0f13_0 a0f13_1 a0f13_2
  have a0f14_0 : w14.cell? ⟨w.heap.size, 0, none⟩ = some (.int .i64 C0) := a0x14.cell 0
  have a0f14_1 : w14.cell? ⟨w.heap.size, 1, none⟩ = some (.int .i64 R0) := a0x14.cell 1
  have a0f14_2 : w14.cell? ⟨w.heap.size, 2, none⟩ = some (.slice A0 n0 c0) := a0x14.cell 2
  clear a0l13
  have a0l14 := a0x14.lt
  clear W0f13_0 W0f13_1 W0f13_2
  have W0f14_0 : w14.cell? ⟨w4.heap.size, 0, none⟩ = some (.int .i64 (mRefineMeshA C0 R0 n0 l0)) := W0x14.cell 0
  have W0f14_1 : w14.cell? ⟨w4.heap.size, 1, none⟩ = some (.int .i64 (mRefineMeshB C0 R0 n0 l0)) := W0x14.cell 1
  have W0f14_2 : w14.cell? ⟨w4.heap.size, 2, none⟩ = some (.slice AW (mRefineMeshN C0 R0 n0 l0) cW) := W0x14.cell 2
  clear W0l13
  have W0l14 := W0x14.lt
  clear G0f13_0 G0f13_1 G0f13_2
  have G0f14_0 : w14.cell? ⟨w8.heap.size, 0, none⟩ = some (.int .i64 (mRefineMeshA C0 R0 n0 l0)) := G0x14.cell 0
  have G0f14_1 : w14.cell? ⟨w8.heap.size, 1, none⟩ = some (.int .i64 (mRefineMeshB C0 R0 n0 l0)) := G0x14.cell 1
  have G0f14_2 : w14.cell? ⟨w8.heap.size, 2, none⟩ = some (.slice AG (mRefineMeshN C0 R0 n0 l0) cG) := G0x14.cell 2
  clear G0l13
  have G0l14 := G0x14.lt
  go_wp2_with fail
  refine (heldMesh_any (mRefineMeshA C0 R0 n0 l0) (mRefineMeshB C0 R0 n0 l0) _ (mRefineMeshN C0 R0 n0 l0) _ 1 (SpotC (mRefineMeshL C0 R0 n0 l0)) _ (by omega) (by omega) (by omega) Go14.sl).mono ?_
  rintro e w15 ⟨rfl, H15⟩
  have D15 := D14.trans (H15.mono D14.size)
  have z15 := H15.size
  have Wo15 := Wo14.below H15
  have Go15 := Go14.below H15
  have a0x15 := blk_step a0x14 H15
  have W0x15 := blk_step W0x14 H15
  have G0x15 := blk_step G0x14 H15
  clear a0f14_0 a0f14_1 a0f14_2
  have a0f15_0 : w15.cell? ⟨w.heap.size, 0, none⟩ = some (.int .i64 C0) := a0x15.cell 0
  have a0f15_1 : w15.cell? ⟨w.heap.size, 1, none⟩ = some (.int .i64 R0) := a0x15.cell 1
  have a0f15_2 : w15.cell? ⟨w.heap.size, 2, none⟩ = some (.slice A0 n0 c0) := a0x15.cell 2
  clear a0l14
  have a0l15 := a0x15.lt
  clear W0f14_0 W0f14_1 W0f14_2
  have W0f15_0 : w15.cell? ⟨w4.heap.size, 0, none⟩ = some (.int .i64 (mRefineMeshA C0 R0 n0 l0)) := W0x15.cell 0
  have W0f15_1 : w15.cell? ⟨w4.heap.size, 1, none⟩ = some (.int .i64 (mRefineMeshB C0 R0 n0 l0)) := W0x15.cell 1
  have W0f15_2 : w15.cell? ⟨w4.heap.size, 2, none⟩ = some (.slice AW (mRefineMeshN C0 R0 n0 l0) cW) := W0x15.cell 2
  clear W0l14
  have W0l15 := W0x15.lt
  clear G0f14_0 G0f14_1 G0f14_2
  have G0f15_0 : w15.cell? ⟨w8.heap.size, 0, none⟩ = some (.int .i64 (mRefineMeshA C0 R0 n0 l0)) := G0x15.cell 0
  have G0f15_1 : w15.cell? ⟨w8.heap.size, 1, none⟩ = some (.int .i64 (mRefineMeshB C0 R0 n0 l0)) := G0x15.cell 1
  have G0f15_2 : w15.cell? ⟨w8.heap.size, 2, none⟩ = some (.slice AG (mRefineMeshN C0 R0 n0 l0) cG) := G0x15.cell 2
  clear G0l14
  have G0l15 := G0x15.lt
  go_wp2_with fail
  refine (toMesh_any C0 R0 A0 n0 c0 l0 _ m0 (s0.below D15)).mono ?_
  rintro e w16 ⟨⟨Bu0, rfl, hB16, t16⟩, H16⟩
  have D16 := D15.trans (H16.mono D15.size)
  have z16 := H16.size
  have Wo16 := Wo15.below H16
  have Go16 := Go15.below H16
  have a0x16 := blk_step a0x15 H16
  have W0x16 := blk_step W0x15 H16
  have G0x16 := blk_step G0x15 H16
  clear a0f15_0 a0f15_1 a0f15_2
  have a0f16_0 : w16.cell? ⟨w.heap.size, 0, none⟩ = some (.int .i64 C0) := a0x16.cell 0
  have a0f16_1 : w16.cell? ⟨w.heap.size, 1, none⟩ = some (.int .i64 R0) := a0x16.cell 1
  have a0f16_2 : w16.cell? ⟨w.heap.size, 2, none⟩ = some (.slice A0 n0 c0) := a0x16.cell 2
  clear a0l15
  have a0l16 := a0x16.lt
  clear W0f15_0 W0f15_1 W0f15_2
  have W0f16_0 : w16.cell? ⟨w4.heap.size, 0, none⟩ = some (.int .i64 (mRefineMeshA C0 R0 n0 l0)) := W0x16.cell 0
  have W0f16_1 : w16.cell? ⟨w4.heap.size, 1, none⟩ = some (.int .i64 (mRefineMeshB C0 R0 n0 l0)) := W0x16.cell 1
  have W0f16_2 : w16.cell? ⟨w4.heap.size, 2, none⟩ = some (.slice AW (mRefineMeshN C0 R0 n0 l0) cW) := W0x16.cell 2
  clear W0l15
  have W0l16 := W0x16.lt
  clear G0f15_0 G0f15_1 G0f15_2
  have G0f16_0 : w16.cell? ⟨w8.heap.size, 0, none⟩ = some (.int .i64 (mRefineMeshA C0 R0 n0 l0)) := G0x16.cell 0
  have G0f16_1 : w16.cell? ⟨w8.heap.size, 1, none⟩ = some (.int .i64 (mRefineMeshB C0 R0 n0 l0)) := G0x16.cell 1
  have G0f16_2 : w16.cell? ⟨w8.heap.size, 2, none⟩ = some (.slice AG (mRefineMeshN C0 R0 n0 l0) cG) := G0x16.cell 2
  clear G0l15
  have G0l16 := G0x16.lt
  have u0o16 := Own.blk (base := w15.heap.size) (size := 2) t16 hB16 (Nat.le_refl (n0 * 2)) (fun _ _ => rfl)
  have u0U := u0o16.und
  have u0O := u0o16.over
  go_wp2_with fail
  refine (implRefineMesh_any C0 R0 _ n0 _ l0 _ m0 u0o16.sl g0).mono ?_
  rintro e w17 ⟨⟨AH, cH, rfl, oH, iH⟩, H17⟩
  have D17 := D16.trans (H17.mono D16.size)
  have z17 := H17.size
  have Wo17 := Wo16.below H17
  have Go17 := Go16.below H17
  have u0o17 := u0o16.below H17
  have a0x17 := blk_step a0x16 H17
  have W0x17 := blk_step W0x16 H17
  have G0x17 := blk_step G0x16 H17
  clear a0f16_0 a0f16_1 a0f16_2
  have a0f17_0 : w17.cell? ⟨w.heap.size, 0, none⟩ = some (.int .i64 C0) := a0x17.cell 0
  have a0f17_1 : w17.cell? ⟨w.heap.size, 1, none⟩ = some (.int .i64 R0) := a0x17.cell 1
  have a0f17_2 : w17.cell? ⟨w.heap.size, 2, none⟩ = some (.slice A0 n0 c0) := a0x17.cell 2
  clear a0l16
  have a0l17 := a0x17.lt
  clear W0f16_0 W0f16_1 W0f16_2
  have W0f17_0 : w17.cell? ⟨w4.heap.size, 0, none⟩ = some (.int .i64 (mRefineMeshA C0 R0 n0 l0)) := W0x17.cell 0
  have W0f17_1 : w17.cell? ⟨w4.heap.size, 1, none⟩ = some (.int .i64 (mRefineMeshB C0 R0 n0 l0)) := W0x17.cell 1
  have W0f17_2 : w17.cell? ⟨w4.heap.size, 2, none⟩ = some (.slice AW (mRefineMeshN C0 R0 n0 l0) cW) := W0x17.cell 2
  clear W0l16
  have W0l17 := W0x17.lt
  clear G0f16_0 G0f16_1 G0f16_2
  have G0f17_0 : w17.cell? ⟨w8.heap.size, 0, none⟩ = some (.int .i64 (mRefineMeshA C0 R0 n0 l0)) := G0x17.cell 0
  have G0f17_1 : w17.cell? ⟨w8.heap.size, 1, none⟩ = some (.int .i64 (mRefineMeshB C0 R0 n0 l0)) := G0x17.cell 1
  have G0f17_2 : w17.cell? ⟨w8.heap.size, 2, none⟩ = some (.slice AG (mRefineMeshN C0 R0 n0 l0) cG) := G0x17.cell 2
  clear G0l16
  have G0l17 := G0x17.lt
  have HU := oH.und
  have HO := oH.over
  go_wp2_with fail
  generalize hW18 : (w17.alloc (.cells #[.int .i64 (mRefineMeshA C0 R0 n0 l0), .int .i64 (mRefineMeshB C0 R0 n0 l0), .slice AH (mRefineMeshN C0 R0 n0 l0) cH] 29)) = w18
  have H18 : Below w17.heap.size w17 w18 := by rw [← hW18]; repeat (first | with_reducible exact Below.refl _ _ | with_reducible assumption | with_reducible refine Below.setCell ?_ (by simp <;> omega) _ | with_reducible refine Below.alloc ?_ (by simp <;> omega) _ | with_reducible refine Below.drew ?_)
  have H0x18 : Blk w18 (w17.heap.size) 29 #[.int .i64 (mRefineMeshA C0 R0 n0 l0), .int .i64 (mRefineMeshB C0 R0 n0 l0), .slice AH (mRefineMeshN C0 R0 n0 l0) cH] := by rw [← hW18]; exact Blk.new w17 29 #[.int .i64 (mRefineMeshA C0 R0 n0 l0), .int .i64 (mRefineMeshB C0 R0 n0 l0), .slice AH (mRefineMeshN C0 R0 n0 l0) cH]
  clear hW18
  have D18 := D17.trans (H18.mono D17.size)
  have z18 := H18.size
  have Wo18 := Wo17.below H18
  have Go18 := Go17.below H18
  have Ho18 := oH.below H18
  have a0x18 := blk_step a0x17 H18
  have W0x18 := blk_step W0x17 H18
  have G0x18 := blk_step G0x17 H18
  clear a0f17_0 a0f17_1 a0f17_2
  have a0f18_0 : w18.cell? ⟨w.heap.size, 0, none⟩ = some (.int .i64 C0) := a0x18.cell 0
  have a0f18_1 : w18.cell? ⟨w.heap.size, 1, none⟩ = some (.int .i64 R0) := a0x18.cell 1
  have a0f18_2 : w18.cell? ⟨w.heap.size, 2, none⟩ = some (.slice A0 n0 c0) := a0x18.cell 2
  clear a0l17
  have a0l18 := a0x18.lt
  clear W0f17_0 W0f17_1 W0f17_2
  have W0f18_0 : w18.cell? ⟨w4.heap.size, 0, none⟩ = some (.int .i64 (mRefineMeshA C0 R0 n0 l0)) := W0x18.cell 0
  have W0f18_1 : w18.cell? ⟨w4.heap.size, 1, none⟩ = some (.int .i64 (mRefineMeshB C0 R0 n0 l0)) := W0x18.cell 1
  have W0f18_2 : w18.cell? ⟨w4.heap.size, 2, none⟩ = some (.slice AW (mRefineMeshN C0 R0 n0 l0) cW) := W0x18.cell 2
  clear W0l17
  have W0l18 := W0x18.lt
  clear G0f17_0 G0f17_1 G0f17_2
  have G0f18_0 : w18.cell? ⟨w8.heap.size, 0, none⟩ = some (.int .i64 (mRefineMeshA C0 R0 n0 l0)) := G0x18.cell 0
  have G0f18_1 : w18.cell? ⟨w8.heap.size, 1, none⟩ = some (.int .i64 (mRefineMeshB C0 R0 n0 l0)) := G0x18.cell 1
  have G0f18_2 : w18.cell? ⟨w8.heap.size, 2, none⟩ = some (.slice AG (mRefineMeshN C0 R0 n0 l0) cG) := G0x18.cell 2
  clear G0l17
  have G0l18 := G0x18.lt
  have H0f18_0 : w18.cell? ⟨w17.heap.size, 0, none⟩ = some (.int .i64 (mRefineMeshA C0 R0 n0 l0)) := H0x18.cell 0
  have H0f18_1 : w18.cell? ⟨w17.heap.size, 1, none⟩ = some (.int .i64 (mRefineMeshB C0 R0 n0 l0)) := H0x18.cell 1
  have H0f18_2 : w18.cell? ⟨w17.heap.size, 2, none⟩ = some (.slice AH (mRefineMeshN C0 R0 n0 l0) cH) := H0x18.cell 2
  have H0l18 := H0x18.lt
  refine (eqMesh_yes (mRefineMeshA C0 R0 n0 l0) (mRefineMeshB C0 R0 n0 l0) _ _ (mRefineMeshN C0 R0 n0 l0) _ _ (mRefineMeshL C0 R0 n0 l0) _ (by omega) Ho18.sl Wo18.sl).mono ?_
  rintro e w19 ⟨rfl, H19⟩
  have D19 := D18.trans (H19.mono D18.size)
  have z19 := H19.size
  have Wo19 := Wo18.below H19
  have Go19 := Go18.below H19
  have Ho19 := Ho18.below H19
  have a0x19 := blk_step a0x18 H19
  have W0x19 := blk_step W0x18 H19
  have G0x19 := blk_step G0x18 H19
  have H0x19 := blk_step H0x18 H19
  clear a0f18_0 a0f18_1 a0f18_2
  have a0f19_0 : w19.cell? ⟨w.heap.size, 0, none⟩ = some (.int .i64 C0) := a0x19.cell 0
  have a0f19_1 : w19.cell? ⟨w.heap.size, 1, none⟩ = some (.int .i64 R0) := a0x19.cell 1
  have a0f19_2 : w19.cell? ⟨w.heap.size, 2, none⟩ = some (.slice A0 n0 c0) := a0x19.cell 2
  clear a0l18
  have a0l19 := a0x19.lt
  clear W0f18_0 W0f18_1 W0f18_2
  have W0f19_0 : w19.cell? ⟨w4.heap.size, 0, none⟩ = some (.int .i64 (mRefineMeshA C0 R0 n0 l0)) := W0x19.cell 0
  have W0f19_1 : w19.cell? ⟨w4.heap.size, 1, none⟩ = some (.int .i64 (mRefineMeshB C0 R0 n0 l0)) := W0x19.cell 1
  have W0f19_2 : w19.cell? ⟨w4.heap.size, 2, none⟩ = some (.slice AW (mRefineMeshN C0 R0 n0 l0) cW) := W0x19.cell 2
  clear W0l18
  have W0l19 := W0x19.lt
  clear G0f18_0 G0f18_1 G0f18_2
  have G0f19_0 : w19.cell? ⟨w8.heap.size, 0, none⟩ = some (.int .i64 (mRefineMeshA C0 R0 n0 l0)) := G0x19.cell 0
  have G0f19_1 : w19.cell? ⟨w8.heap.size, 1, none⟩ = some (.int .i64 (mRefineMeshB C0 R0 n0 l0)) := G0x19.cell 1
  have G0f19_2 : w19.cell? ⟨w8.heap.size, 2, none⟩ = some (.slice AG (mRefineMeshN C0 R0 n0 l0) cG) := G0x19.cell 2
  clear G0l18
  have G0l19 := G0x19.lt
  clear H0f18_0 H0f18_1 H0f18_2
  have H0f19_0 : w19.cell? ⟨w17.heap.size, 0, none⟩ = some (.int .i64 (mRefineMeshA C0 R0 n0 l0)) := H0x19.cell 0
  have H0f19_1 : w19.cell? ⟨w17.heap.size, 1, none⟩ = some (.int .i64 (mRefineMeshB C0 R0 n0 l0)) := H0x19.cell 1
  have H0f19_2 : w19.cell? ⟨w17.heap.size, 2, none⟩ = some (.slice AH (mRefineMeshN C0 R0 n0 l0) cH) := H0x19.cell 2
  clear H0l18
  have H0l19 := H0x19.lt
  go_wp2_with fail
  refine (heldMesh_any (mRefineMeshA C0 R0 n0 l0) (mRefineMeshB C0 R0 n0 l0) _ (mRefineMeshN C0 R0 n0 l0) _ 1 (SpotC (mRefineMeshL C0 R0 n0 l0)) _ (by omega) (by omega) (by omega) Go19.sl).mono ?_
  rintro e w20 ⟨rfl, H20⟩
  have D20 := D19.trans (H20.mono D19.size)
  have z20 := H20.size
  have Wo20 := Wo19.below H20
  have Go20 := Go19.below H20
  have Ho20 := Ho19.below H20
  have a0x20 := blk_step a0x19 H20
  have W0x20 := blk_step W0x19 H20
  have G0x20 := blk_step G0x19 H20
  have H0x20 := blk_step H0x19 H20
  clear a0f19_0 a0f19_1 a0f19_2
  have a0f20_0 : w20.cell? ⟨w.heap.size, 0, none⟩ = some (.int .i64 C0) := a0x20.cell 0
  have a0f20_1 : w20.cell? ⟨w.heap.size, 1, none⟩ = some (.int .i64 R0) := a0x20.cell 1
  have a0f20_2 : w20.cell? ⟨w.heap.size, 2, none⟩ = some (.slice A0 n0 c0) := a0x20.cell 2
  clear a0l19
  have a0l20 := a0x20.lt
  clear W0f19_0 W0f19_1 W0f19_2
  have W0f20_0 : w20.cell? ⟨w4.heap.size, 0, none⟩ = some (.int .i64 (mRefineMeshA C0 R0 n0 l0)) := W0x20.cell 0
  have W0f20_1 : w20.cell? ⟨w4.heap.size, 1, none⟩ = some (.int .i64 (mRefineMeshB C0 R0 n0 l0)) := W0x20.cell 1
  have W0f20_2 : w20.cell? ⟨w4.heap.size, 2, none⟩ = some (.slice AW (mRefineMeshN C0 R0 n0 l0) cW) := W0x20.cell 2
  clear W0l19
  have W0l20 := W0x20.lt
  clear G0f19_0 G0f19_1 G0f19_2
  have G0f20_0 : w20.cell? ⟨w8.heap.size, 0, none⟩ = some (.int .i64 (mRefineMeshA C0 R0 n0 l0)) := G0x20.cell 0
  have G0f20_1 : w20.cell? ⟨w8.heap.size, 1, none⟩ = some (.int .i64 (mRefineMeshB C0 R0 n0 l0)) := G0x20.cell 1
  have G0f20_2 : w20.cell? ⟨w8.heap.size, 2, none⟩ = some (.slice AG (mRefineMeshN C0 R0 n0 l0) cG) := G0x20.cell 2
  clear G0l19
  have G0l20 := G0x20.lt
  clear H0f19_0 H0f19_1 H0f19_2
  have H0f20_0 : w20.cell? ⟨w17.heap.size, 0, none⟩ = some (.int .i64 (mRefineMeshA C0 R0 n0 l0)) := H0x20.cell 0
  have H0f20_1 : w20.cell? ⟨w17.heap.size, 1, none⟩ = some (.int .i64 (mRefineMeshB C0 R0 n0 l0)) := H0x20.cell 1
  have H0f20_2 : w20.cell? ⟨w17.heap.size, 2, none⟩ = some (.slice AH (mRefineMeshN C0 R0 n0 l0) cH) := H0x20.cell 2
  clear H0l19
  have H0l20 := H0x20.lt
  go_wp2_with fail
  go_ret
  exact ⟨rfl, D20⟩

end Go.Proofs.Ytddcbieomklhnaa
