/- FnExactWarpPoint returns true at every input: the walk. No condition beyond those that every argument meets. -/
import Derived.Test.YtddcbieomklhnaaWarpPoint
import Derived.Test.YtddcbieomklhnaaSMesh
import Derived.Deep.RegionHeld3
import Derived.Deep.DeepCutAuto
namespace Go.Proofs.Ytddcbieomklhnaa
open Go.RowKit Go.Lib Go.Ks
set_option linter.unusedVariables false
set_option maxRecDepth 100000 in
set_option maxHeartbeats 4000000 in
theorem lawWarpPoint (C0 R0 : Int) (A0 : Option Addr) (n0 c0 : Nat) (l0 : Nat → SpotD) (x1 : Int) (x2 : Int) (w : World) (yc0 : -9223372036854775808 ≤ C0 ∧ C0 ≤ 9223372036854775807) (yr0 : -9223372036854775808 ≤ R0 ∧ R0 ≤ 9223372036854775807) (b0 : n0 ≤ 9223372036854775807) (s0 : Sl w A0 (n0 * 2) (SpotC l0)) (g0 : ∀ k, k < n0 → SpotOk (l0 k)) (y1 : -9223372036854775808 ≤ x1 ∧ x1 ≤ 9223372036854775807) (y2 : -9223372036854775808 ≤ x2 ∧ x2 ≤ 9223372036854775807) :
    Calls Try.prog 6 #[.agg #[.int .i64 C0, .int .i64 R0, .slice A0 n0 c0], .int .i64 x1, .int .i64 x2] w fun e w' => e = .returned (.bool true) ∧ Below w.heap.size w w' := by
  have D0 := Below.refl w.heap.size w
  go_enter Try.func6, Try.ntmps6
  go_wp2_with fail
  generalize hW1 : (w.alloc (.cells #[.int .i64 C0, .int .i64 R0, .slice A0 n0 c0] 24)) = w1
  have H1 : Below w.heap.size w w1 := by rw [← hW1]; repeat (first | with_reducible exact Below.refl _ _ | with_reducible assumption | with_reducible refine Below.setCell ?_ (by simp <;> omega) _ | with_reducible refine Below.alloc ?_ (by simp <;> omega) _ | with_reducible refine Below.drew ?_)
  have a0x1 : Blk w1 (w.heap.size) 24 #[.int .i64 C0, .int .i64 R0, .slice A0 n0 c0] := by rw [← hW1]; exact Blk.new w 24 #[.int .i64 C0, .int .i64 R0, .slice A0 n0 c0]
  clear hW1
  have D1 := D0.trans (H1.mono D0.size)
  have z1 := H1.size
  have a0f1_0 : w1.cell? ⟨w.heap.size, 0, none⟩ = some (.int .i64 C0) := a0x1.cell 0
  have a0f1_1 : w1.cell? ⟨w.heap.size, 1, none⟩ = some (.int .i64 R0) := a0x1.cell 1
  have a0f1_2 : w1.cell? ⟨w.heap.size, 2, none⟩ = some (.slice A0 n0 c0) := a0x1.cell 2
  have a0l1 := a0x1.lt
  refine (szMesh_any C0 R0 _ _ _ _ b0 (by omega) (by omega) _).mono ?_
  rintro e w2 ⟨⟨r2, rfl, hr2⟩, H2⟩
  have D2 := D1.trans (H2.mono D1.size)
  have z2 := H2.size
  have a0x2 := blk_step a0x1 H2
  clear a0f1_0 a0f1_1 a0f1_2
  have a0f2_0 : w2.cell? ⟨w.heap.size, 0, none⟩ = some (.int .i64 C0) := a0x2.cell 0
  have a0f2_1 : w2.cell? ⟨w.heap.size, 1, none⟩ = some (.int .i64 R0) := a0x2.cell 1
  have a0f2_2 : w2.cell? ⟨w.heap.size, 2, none⟩ = some (.slice A0 n0 c0) := a0x2.cell 2
  clear a0l1
  have a0l2 := a0x2.lt
  rcases hr2 with rfl | ⟨d2a, d2b, d2c⟩
  · go_wp2_with fail
    go_ret
    exact ⟨rfl, D2⟩
  have m0 : n0 ≤ 1048576 := by omega
  go_wp2_with fail
  refine (toMesh_any C0 R0 A0 n0 c0 l0 _ m0 (s0.below D2)).mono ?_
  rintro e w3 ⟨⟨Bu0, rfl, hB3, t3⟩, H3⟩
  have D3 := D2.trans (H3.mono D2.size)
  have z3 := H3.size
  have a0x3 := blk_step a0x2 H3
  clear a0f2_0 a0f2_1 a0f2_2
  have a0f3_0 : w3.cell? ⟨w.heap.size, 0, none⟩ = some (.int .i64 C0) := a0x3.cell 0
  have a0f3_1 : w3.cell? ⟨w.heap.size, 1, none⟩ = some (.int .i64 R0) := a0x3.cell 1
  have a0f3_2 : w3.cell? ⟨w.heap.size, 2, none⟩ = some (.slice A0 n0 c0) := a0x3.cell 2
  clear a0l2
  have a0l3 := a0x3.lt
  have u0o3 := Own.blk (base := w2.heap.size) (size := 2) t3 hB3 (Nat.le_refl (n0 * 2)) (fun _ _ => rfl)
  have u0U := u0o3.und
  have u0O := u0o3.over
  go_wp2_with fail
  refine (specWarpPoint_any C0 R0 _ n0 _ l0 x1 x2 _ m0 u0o3.sl g0 y1 y2).mono ?_
  rintro e w4 ⟨rfl, H4⟩
  have D4 := D3.trans (H4.mono D3.size)
  have z4 := H4.size
  have u0o4 := u0o3.below H4
  have a0x4 := blk_step a0x3 H4
  clear a0f3_0 a0f3_1 a0f3_2
  have a0f4_0 : w4.cell? ⟨w.heap.size, 0, none⟩ = some (.int .i64 C0) := a0x4.cell 0
  have a0f4_1 : w4.cell? ⟨w.heap.size, 1, none⟩ = some (.int .i64 R0) := a0x4.cell 1
  have a0f4_2 : w4.cell? ⟨w.heap.size, 2, none⟩ = some (.slice A0 n0 c0) := a0x4.cell 2
  clear a0l3
  have a0l4 := a0x4.lt
  go_wp2_with fail
  generalize hW5 : (w4.alloc (.cells #[.int .i64 (mWarpX C0 R0 n0 l0 x1 x2), .int .i64 (mWarpY C0 R0 n0 l0 x1 x2)] 39)) = w5
  have H5 : Below w4.heap.size w4 w5 := by rw [← hW5]; repeat (first | with_reducible exact Below.refl _ _ | with_reducible assumption | with_reducible refine Below.setCell ?_ (by simp <;> omega) _ | with_reducible refine Below.alloc ?_ (by simp <;> omega) _ | with_reducible refine Below.drew ?_)
  have W0x5 : Blk w5 (w4.heap.size) 39 #[.int .i64 (mWarpX C0 R0 n0 l0 x1 x2), .int .i64 (mWarpY C0 R0 n0 l0 x1 x2)] := by rw [← hW5]; exact Blk.new w4 39 #[.int .i64 (mWarpX C0 R0 n0 l0 x1 x2), .int .i64 (mWarpY C0 R0 n0 l0 x1 x2)]
  clear hW5
  have D5 := D4.trans (H5.mono D4.size)
  have z5 := H5.size
  have a0x5 := blk_step a0x4 H5
  clear a0f4_0 a0f4_1 a0f4_2
  have a0f5_0 : w5.cell? ⟨w.heap.size, 0, none⟩ = some (.int .i64 C0) := a0x5.cell 0
  have a0f5_1 : w5.cell? ⟨w.heap.size, 1, none⟩ = some (.int .i64 R0) := a0x5.cell 1
  have a0f5_2 : w5.cell? ⟨w.heap.size, 2, none⟩ = some (.slice A0 n0 c0) := a0x5.cell 2
  clear a0l4
  have a0l5 := a0x5.lt
  have W0f5_0 : w5.cell? ⟨w4.heap.size, 0, none⟩ = some (.int .i64 (mWarpX C0 R0 n0 l0 x1 x2)) := W0x5.cell 0
  have W0f5_1 : w5.cell? ⟨w4.heap.size, 1, none⟩ = some (.int .i64 (mWarpY C0 R0 n0 l0 x1 x2)) := W0x5.cell 1
  have W0l5 := W0x5.lt
  refine (toMesh_any C0 R0 A0 n0 c0 l0 _ m0 (s0.below D5)).mono ?_
  rintro e w6 ⟨⟨Bx0, rfl, hB6, t6⟩, H6⟩
  have D6 := D5.trans (H6.mono D5.size)
  have z6 := H6.size
  have a0x6 := blk_step a0x5 H6
  have W0x6 := blk_step W0x5 H6
  clear a0f5_0 a0f5_1 a0f5_2
  have a0f6_0 : w6.cell? ⟨w.heap.size, 0, none⟩ = some (.int .i64 C0) := a0x6.cell 0
  have a0f6_1 : w6.cell? ⟨w.heap.size, 1, none⟩ = some (.int .i64 R0) := a0x6.cell 1
  have a0f6_2 : w6.cell? ⟨w.heap.size, 2, none⟩ = some (.slice A0 n0 c0) := a0x6.cell 2
  clear a0l5
  have a0l6 := a0x6.lt
  clear W0f5_0 W0f5_1
  have W0f6_0 : w6.cell? ⟨w4.heap.size, 0, none⟩ = some (.int .i64 (mWarpX C0 R0 n0 l0 x1 x2)) := W0x6.cell 0
  have W0f6_1 : w6.cell? ⟨w4.heap.size, 1, none⟩ = some (.int .i64 (mWarpY C0 R0 n0 l0 x1 x2)) := W0x6.cell 1
  clear W0l5
  have W0l6 := W0x6.lt
  have x0o6 := Own.blk (base := w5.heap.size) (size := 2) t6 hB6 (Nat.le_refl (n0 * 2)) (fun _ _ => rfl)
  have x0U := x0o6.und
  have x0O := x0o6.over
  go_wp2_with fail
  generalize hW7 : (w6.alloc (.cells #[.int .i64 C0, .int .i64 R0, .slice (some ⟨Bx0, 0, none⟩) n0 n0] 29)) = w7
  have H7 : Below w6.heap.size w6 w7 := by rw [← hW7]; repeat (first | with_reducible exact Below.refl _ _ | with_reducible assumption | with_reducible refine Below.setCell ?_ (by simp <;> omega) _ | with_reducible refine Below.alloc ?_ (by simp <;> omega) _ | with_reducible refine Below.drew ?_)
  have x0x7 : Blk w7 (w6.heap.size) 29 #[.int .i64 C0, .int .i64 R0, .slice (some ⟨Bx0, 0, none⟩) n0 n0] := by rw [← hW7]; exact Blk.new w6 29 #[.int .i64 C0, .int .i64 R0, .slice (some ⟨Bx0, 0, none⟩) n0 n0]
  clear hW7
  have D7 := D6.trans (H7.mono D6.size)
  have z7 := H7.size
  have x0o7 := x0o6.below H7
  have a0x7 := blk_step a0x6 H7
  have W0x7 := blk_step W0x6 H7
  clear a0f6_0 a0f6_1 a0f6_2
  have a0f7_0 : w7.cell? ⟨w.heap.size, 0, none⟩ = some (.int .i64 C0) := a0x7.cell 0
  have a0f7_1 : w7.cell? ⟨w.heap.size, 1, none⟩ = some (.int .i64 R0) := a0x7.cell 1
  have a0f7_2 : w7.cell? ⟨w.heap.size, 2, none⟩ = some (.slice A0 n0 c0) := a0x7.cell 2
  clear a0l6
  have a0l7 := a0x7.lt
  clear W0f6_0 W0f6_1
  have W0f7_0 : w7.cell? ⟨w4.heap.size, 0, none⟩ = some (.int .i64 (mWarpX C0 R0 n0 l0 x1 x2)) := W0x7.cell 0
  have W0f7_1 : w7.cell? ⟨w4.heap.size, 1, none⟩ = some (.int .i64 (mWarpY C0 R0 n0 l0 x1 x2)) := W0x7.cell 1
  clear W0l6
  have W0l7 := W0x7.lt
  have x0f7_0 : w7.cell? ⟨w6.heap.size, 0, none⟩ = some (.int .i64 C0) := x0x7.cell 0
  have x0f7_1 : w7.cell? ⟨w6.heap.size, 1, none⟩ = some (.int .i64 R0) := x0x7.cell 1
  have x0f7_2 : w7.cell? ⟨w6.heap.size, 2, none⟩ = some (.slice (some ⟨Bx0, 0, none⟩) n0 n0) := x0x7.cell 2
  have x0l7 := x0x7.lt
  refine (implWarpPoint_any C0 R0 _ n0 _ l0 x1 x2 _ m0 x0o7.sl g0 y1 y2).mono ?_
  rintro e w8 ⟨rfl, H8⟩
  have D8 := D7.trans (H8.mono D7.size)
  have z8 := H8.size
  have x0o8 := x0o7.below H8
  have a0x8 := blk_step a0x7 H8
  have W0x8 := blk_step W0x7 H8
  have x0x8 := blk_step x0x7 H8
  clear a0f7_0 a0f7_1 a0f7_2
  have a0f8_0 : w8.cell? ⟨w.heap.size, 0, none⟩ = some (.int .i64 C0) := a0x8.cell 0
  have a0f8_1 : w8.cell? ⟨w.heap.size, 1, none⟩ = some (.int .i64 R0) := a0x8.cell 1
  have a0f8_2 : w8.cell? ⟨w.heap.size, 2, none⟩ = some (.slice A0 n0 c0) := a0x8.cell 2
  clear a0l7
  have a0l8 := a0x8.lt
  clear W0f7_0 W0f7_1
  have W0f8_0 : w8.cell? ⟨w4.heap.size, 0, none⟩ = some (.int .i64 (mWarpX C0 R0 n0 l0 x1 x2)) := W0x8.cell 0
  have W0f8_1 : w8.cell? ⟨w4.heap.size, 1, none⟩ = some (.int .i64 (mWarpY C0 R0 n0 l0 x1 x2)) := W0x8.cell 1
  clear W0l7
  have W0l8 := W0x8.lt
  clear x0f7_0 x0f7_1 x0f7_2
  have x0f8_0 : w8.cell? ⟨w6.heap.size, 0, none⟩ = some (.int .i64 C0) := x0x8.cell 0
  have x0f8_1 : w8.cell? ⟨w6.heap.size, 1, none⟩ = some (.int .i64 R0) := x0x8.cell 1
  have x0f8_2 : w8.cell? ⟨w6.heap.size, 2, none⟩ = some (.slice (some ⟨Bx0, 0, none⟩) n0 n0) := x0x8.cell 2
  clear x0l7
  have x0l8 := x0x8.lt
  go_wp2_with fail
  generalize hW9 : (w8.alloc (.cells #[.int .i64 (mWarpX C0 R0 n0 l0 x1 x2), .int .i64 (mWarpY C0 R0 n0 l0 x1 x2)] 39)) = w9
  have H9 : Below w8.heap.size w8 w9 := by rw [← hW9]; repeat (first | with_reducible exact Below.refl _ _ | with_reducible assumption | with_reducible refine Below.setCell ?_ (by simp <;> omega) _ | with_reducible refine Below.alloc ?_ (by simp <;> omega) _ | with_reducible refine Below.drew ?_)
  have G0x9 : Blk w9 (w8.heap.size) 39 #[.int .i64 (mWarpX C0 R0 n0 l0 x1 x2), .int .i64 (mWarpY C0 R0 n0 l0 x1 x2)] := by rw [← hW9]; exact Blk.new w8 39 #[.int .i64 (mWarpX C0 R0 n0 l0 x1 x2), .int .i64 (mWarpY C0 R0 n0 l0 x1 x2)]
  clear hW9
  have D9 := D8.trans (H9.mono D8.size)
  have z9 := H9.size
  have x0o9 := x0o8.below H9
  have a0x9 := blk_step a0x8 H9
  have W0x9 := blk_step W0x8 H9
  have x0x9 := blk_step x0x8 H9
  clear a0f8_0 a0f8_1 a0f8_2
  have a0f9_0 : w9.cell? ⟨w.heap.size, 0, none⟩ = some (.int .i64 C0) := a0x9.cell 0
  have a0f9_1 : w9.cell? ⟨w.heap.size, 1, none⟩ = some (.int .i64 R0) := a0x9.cell 1
  have a0f9_2 : w9.cell? ⟨w.heap.size, 2, none⟩ = some (.slice A0 n0 c0) := a0x9.cell 2
  clear a0l8
  have a0l9 := a0x9.lt
  clear W0f8_0 W0f8_1
  have W0f9_0 : w9.cell? ⟨w4.heap.size, 0, none⟩ = some (.int .i64 (mWarpX C0 R0 n0 l0 x1 x2)) := W0x9.cell 0
  have W0f9_1 : w9.cell? ⟨w4.heap.size, 1, none⟩ = some (.int .i64 (mWarpY C0 R0 n0 l0 x1 x2)) := W0x9.cell 1
  clear W0l8
  have W0l9 := W0x9.lt
  clear x0f8_0 x0f8_1 x0f8_2
  have x0f9_0 : w9.cell? ⟨w6.heap.size, 0, none⟩ = some (.int .i64 C0) := x0x9.cell 0
  have x0f9_1 : w9.cell? ⟨w6.heap.size, 1, none⟩ = some (.int .i64 R0) := x0x9.cell 1
  have x0f9_2 : w9.cell? ⟨w6.heap.size, 2, none⟩ = some (.slice (some ⟨Bx0, 0, none⟩) n0 n0) := x0x9.cell 2
  clear x0l8
  have x0l9 := x0x9.lt
  have G0f9_0 : w9.cell? ⟨w8.heap.size, 0, none⟩ = some (.int .i64 (mWarpX C0 R0 n0 l0 x1 x2)) := G0x9.cell 0
  have G0f9_1 : w9.cell? ⟨w8.heap.size, 1, none⟩ = some (.int .i64 (mWarpY C0 R0 n0 l0 x1 x2)) := G0x9.cell 1
  have G0l9 := G0x9.lt
  refine (eqSpot_yes (mWarpX C0 R0 n0 l0 x1 x2) (mWarpY C0 R0 n0 l0 x1 x2) _).mono ?_
  rintro e w10 ⟨rfl, H10⟩
  have D10 := D9.trans (H10.mono D9.size)
  have z10 := H10.size
  have x0o10 := x0o9.below H10
  have a0x10 := blk_step a0x9 H10
  have W0x10 := blk_step W0x9 H10
  have x0x10 := blk_step x0x9 H10
  have G0x10 := blk_step G0x9 H10
  clear a0f9_0 a0f9_1 a0f9_2
  have a0f10_0 : w10.cell? ⟨w.heap.size, 0, none⟩ = some (.int .i64 C0) := a0x10.cell 0
  have a0f10_1 : w10.cell? ⟨w.heap.size, 1, none⟩ = some (.int .i64 R0) := a0x10.cell 1
  have a0f10_2 : w10.cell? ⟨w.heap.size, 2, none⟩ = some (.slice A0 n0 c0) := a0x10.cell 2
  clear a0l9
  have a0l10 := a0x10.lt
  clear W0f9_0 W0f9_1
  have W0f10_0 : w10.cell? ⟨w4.heap.size, 0, none⟩ = some (.int .i64 (mWarpX C0 R0 n0 l0 x1 x2)) := W0x10.cell 0
  have W0f10_1 : w10.cell? ⟨w4.heap.size, 1, none⟩ = some (.int .i64 (mWarpY C0 R0 n0 l0 x1 x2)) := W0x10.cell 1
  clear W0l9
  have W0l10 := W0x10.lt
  clear x0f9_0 x0f9_1 x0f9_2
  have x0f10_0 : w10.cell? ⟨w6.heap.size, 0, none⟩ = some (.int .i64 C0) := x0x10.cell 0
  have x0f10_1 : w10.cell? ⟨w6.heap.size, 1, none⟩ = some (.int .i64 R0) := x0x10.cell 1
  have x0f10_2 : w10.cell? ⟨w6.heap.size, 2, none⟩ = some (.slice (some ⟨Bx0, 0, none⟩) n0 n0) := x0x10.cell 2
  clear x0l9
  have x0l10 := x0x10.lt
  clear G0f9_0 G0f9_1
  have G0f10_0 : w10.cell? ⟨w8.heap.size, 0, none⟩ = some (.int .i64 (mWarpX C0 R0 n0 l0 x1 x2)) := G0x10.cell 0
  have G0f10_1 : w10.cell? ⟨w8.heap.size, 1, none⟩ = some (.int .i64 (mWarpY C0 R0 n0 l0 x1 x2)) := G0x10.cell 1
  clear G0l9
  have G0l10 := G0x10.lt
  go_wp2_with fail
  go_cut [48] (fun s48 wr => s48 = .bool false ∧ Below w10.heap.size w10 wr)
  case first =>
    have ks : ∀ w' : World, Below w10.heap.size w10 w' → w'.cell? ⟨w.heap.size, 0, none⟩ = some (.int .i64 C0) ∧ w'.cell? ⟨w.heap.size, 1, none⟩ = some (.int .i64 R0) ∧ w'.cell? ⟨w.heap.size, 2, none⟩ = some (.slice A0 n0 c0) ∧ w'.cell? ⟨w6.heap.size, 0, none⟩ = some (.int .i64 C0) ∧ w'.cell? ⟨w6.heap.size, 1, none⟩ = some (.int .i64 R0) ∧ w'.cell? ⟨w6.heap.size, 2, none⟩ = some (.slice (some ⟨Bx0, 0, none⟩) n0 n0) := fun w' h => ⟨(Blk.below a0x10 h a0x10.lt).cell 0, (Blk.below a0x10 h a0x10.lt).cell 1, (Blk.below a0x10 h a0x10.lt).cell 2, (Blk.below x0x10 h x0x10.lt).cell 0, (Blk.below x0x10 h x0x10.lt).cell 1, (Blk.below x0x10 h x0x10.lt).cell 2⟩
    have KS := Lib.hid ks
    clear ks
    go_region_held3 (fun w' => w'.cell? ⟨w.heap.size, 0, none⟩ = some (.int .i64 C0) ∧ w'.cell? ⟨w.heap.size, 1, none⟩ = some (.int .i64 R0) ∧ w'.cell? ⟨w.heap.size, 2, none⟩ = some (.slice A0 n0 c0) ∧ w'.cell? ⟨w6.heap.size, 0, none⟩ = some (.int .i64 C0) ∧ w'.cell? ⟨w6.heap.size, 1, none⟩ = some (.int .i64 R0) ∧ w'.cell? ⟨w6.heap.size, 2, none⟩ = some (.slice (some ⟨Bx0, 0, none⟩) n0 n0))
      (exact KS.out _ (by repeat (first | with_reducible exact Below.refl _ _ | with_reducible assumption | with_reducible refine Below.setCell ?_ (by first | omega | (simp <;> omega)) _ | with_reducible refine Below.alloc ?_ (by first | omega | (simp <;> omega)) _ | with_reducible refine Below.drew ?_)))
      (first
      | (go_at_call 17; refine (toMesh_any C0 R0 A0 n0 c0 l0 _ m0 (s0.below (by repeat (first | with_reducible exact Below.refl _ _ | with_reducible assumption | with_reducible refine Below.setCell ?_ (by first | omega | (simp <;> omega)) _ | with_reducible refine Below.alloc ?_ (by first | omega | (simp <;> omega)) _ | with_reducible refine Below.drew ?_)))).mono ?_; rintro e v0_0 ⟨⟨Be0, rfl, he0, te0⟩, F0_0⟩; have E0_0 : Below w10.heap.size w10 v0_0 := below_then (by repeat (first | with_reducible exact Below.refl _ _ | with_reducible assumption | with_reducible refine Below.setCell ?_ (by first | omega | (simp <;> omega)) _ | with_reducible refine Below.alloc ?_ (by first | omega | (simp <;> omega)) _ | with_reducible refine Below.drew ?_)) F0_0; have DD0_0 := D10.trans (E0_0.mono D10.size); have ES0_0 := E0_0.size; have Oe0 := Own.blk (size := 2) te0 (Nat.zero_le _) (Nat.le_refl (n0 * 2)) (fun _ _ => rfl); have a0y0 := blk_then a0x10 (by repeat (first | with_reducible exact Below.refl _ _ | with_reducible assumption | with_reducible refine Below.setCell ?_ (by first | omega | (simp <;> omega)) _ | with_reducible refine Below.alloc ?_ (by first | omega | (simp <;> omega)) _ | with_reducible refine Below.drew ?_)) F0_0; have a0y0_0 : v0_0.cell? ⟨w.heap.size, 0, none⟩ = some (.int .i64 C0) := a0y0.cell 0; have a0y0_1 : v0_0.cell? ⟨w.heap.size, 1, none⟩ = some (.int .i64 R0) := a0y0.cell 1; have a0y0_2 : v0_0.cell? ⟨w.heap.size, 2, none⟩ = some (.slice A0 n0 c0) := a0y0.cell 2; have a0y0_l := a0y0.lt; have W0y0 := blk_then W0x10 (by repeat (first | with_reducible exact Below.refl _ _ | with_reducible assumption | with_reducible refine Below.setCell ?_ (by first | omega | (simp <;> omega)) _ | with_reducible refine Below.alloc ?_ (by first | omega | (simp <;> omega)) _ | with_reducible refine Below.drew ?_)) F0_0; have W0y0_0 : v0_0.cell? ⟨w4.heap.size, 0, none⟩ = some (.int .i64 (mWarpX C0 R0 n0 l0 x1 x2)) := W0y0.cell 0; have W0y0_1 : v0_0.cell? ⟨w4.heap.size, 1, none⟩ = some (.int .i64 (mWarpY C0 R0 n0 l0 x1 x2)) := W0y0.cell 1; have W0y0_l := W0y0.lt; have x0y0 := blk_then x0x10 (by repeat (first | with_reducible exact Below.refl _ _ | with_reducible assumption | with_reducible refine Below.setCell ?_ (by first | omega | (simp <;> omega)) _ | with_reducible refine Below.alloc ?_ (by first | omega | (simp <;> omega)) _ | with_reducible refine Below.drew ?_)) F0_0; have x0y0_0 : v0_0.cell? ⟨w6.heap.size, 0, none⟩ = some (.int .i64 C0) := x0y0.cell 0; have x0y0_1 : v0_0.cell? ⟨w6.heap.size, 1, none⟩ = some (.int .i64 R0) := x0y0.cell 1; have x0y0_2 : v0_0.cell? ⟨w6.heap.size, 2, none⟩ = some (.slice (some ⟨Bx0, 0, none⟩) n0 n0) := x0y0.cell 2; have x0y0_l := x0y0.lt; have G0y0 := blk_then G0x10 (by repeat (first | with_reducible exact Below.refl _ _ | with_reducible assumption | with_reducible refine Below.setCell ?_ (by first | omega | (simp <;> omega)) _ | with_reducible refine Below.alloc ?_ (by first | omega | (simp <;> omega)) _ | with_reducible refine Below.drew ?_)) F0_0; have G0y0_0 : v0_0.cell? ⟨w8.heap.size, 0, none⟩ = some (.int .i64 (mWarpX C0 R0 n0 l0 x1 x2)) := G0y0.cell 0; have G0y0_1 : v0_0.cell? ⟨w8.heap.size, 1, none⟩ = some (.int .i64 (mWarpY C0 R0 n0 l0 x1 x2)) := G0y0.cell 1; have G0y0_l := G0y0.lt)
      | (go_at_call 19; refine (eqMesh_yes C0 R0 _ _ n0 _ _ l0 _ (by omega) (x0o10.below (by repeat (first | with_reducible exact Below.refl _ _ | with_reducible assumption | with_reducible refine Below.setCell ?_ (by first | omega | (simp <;> omega)) _ | with_reducible refine Below.alloc ?_ (by first | omega | (simp <;> omega)) _ | with_reducible refine Below.drew ?_))).sl (Oe0.below (by repeat (first | with_reducible exact Below.refl _ _ | with_reducible assumption | with_reducible refine Below.setCell ?_ (by first | omega | (simp <;> omega)) _ | with_reducible refine Below.alloc ?_ (by first | omega | (simp <;> omega)) _ | with_reducible refine Below.drew ?_))).sl).mono ?_; rintro e v0_1 ⟨rfl, F0_1⟩; have E0_1 : Below w10.heap.size w10 v0_1 := below_then (by repeat (first | with_reducible exact Below.refl _ _ | with_reducible assumption | with_reducible refine Below.setCell ?_ (by first | omega | (simp <;> omega)) _ | with_reducible refine Below.alloc ?_ (by first | omega | (simp <;> omega)) _ | with_reducible refine Below.drew ?_)) F0_1; have DD0_1 := D10.trans (E0_1.mono D10.size); have ES0_1 := E0_1.size; (try replace Oe0 := (Oe0.below (by repeat (first | with_reducible exact Below.refl _ _ | with_reducible assumption | with_reducible refine Below.setCell ?_ (by first | omega | (simp <;> omega)) _ | with_reducible refine Below.alloc ?_ (by first | omega | (simp <;> omega)) _ | with_reducible refine Below.drew ?_))).below F0_1); have a0y1 := blk_then a0x10 (by repeat (first | with_reducible exact Below.refl _ _ | with_reducible assumption | with_reducible refine Below.setCell ?_ (by first | omega | (simp <;> omega)) _ | with_reducible refine Below.alloc ?_ (by first | omega | (simp <;> omega)) _ | with_reducible refine Below.drew ?_)) F0_1; have a0y1_0 : v0_1.cell? ⟨w.heap.size, 0, none⟩ = some (.int .i64 C0) := a0y1.cell 0; have a0y1_1 : v0_1.cell? ⟨w.heap.size, 1, none⟩ = some (.int .i64 R0) := a0y1.cell 1; have a0y1_2 : v0_1.cell? ⟨w.heap.size, 2, none⟩ = some (.slice A0 n0 c0) := a0y1.cell 2; have a0y1_l := a0y1.lt; have W0y1 := blk_then W0x10 (by repeat (first | with_reducible exact Below.refl _ _ | with_reducible assumption | with_reducible refine Below.setCell ?_ (by first | omega | (simp <;> omega)) _ | with_reducible refine Below.alloc ?_ (by first | omega | (simp <;> omega)) _ | with_reducible refine Below.drew ?_)) F0_1; have W0y1_0 : v0_1.cell? ⟨w4.heap.size, 0, none⟩ = some (.int .i64 (mWarpX C0 R0 n0 l0 x1 x2)) := W0y1.cell 0; have W0y1_1 : v0_1.cell? ⟨w4.heap.size, 1, none⟩ = some (.int .i64 (mWarpY C0 R0 n0 l0 x1 x2)) := W0y1.cell 1; have W0y1_l := W0y1.lt; have x0y1 := blk_then x0x10 (by repeat (first | with_reducible exact Below.refl _ _ | with_reducible assumption | with_reducible refine Below.setCell ?_ (by first | omega | (simp <;> omega)) _ | with_reducible refine Below.alloc ?_ (by first | omega | (simp <;> omega)) _ | with_reducible refine Below.drew ?_)) F0_1; have x0y1_0 : v0_1.cell? ⟨w6.heap.size, 0, none⟩ = some (.int .i64 C0) := x0y1.cell 0; have x0y1_1 : v0_1.cell? ⟨w6.heap.size, 1, none⟩ = some (.int .i64 R0) := x0y1.cell 1; have x0y1_2 : v0_1.cell? ⟨w6.heap.size, 2, none⟩ = some (.slice (some ⟨Bx0, 0, none⟩) n0 n0) := x0y1.cell 2; have x0y1_l := x0y1.lt; have G0y1 := blk_then G0x10 (by repeat (first | with_reducible exact Below.refl _ _ | with_reducible assumption | with_reducible refine Below.setCell ?_ (by first | omega | (simp <;> omega)) _ | with_reducible refine Below.alloc ?_ (by first | omega | (simp <;> omega)) _ | with_reducible refine Below.drew ?_)) F0_1; have G0y1_0 : v0_1.cell? ⟨w8.heap.size, 0, none⟩ = some (.int .i64 (mWarpX C0 R0 n0 l0 x1 x2)) := G0y1.cell 0; have G0y1_1 : v0_1.cell? ⟨w8.heap.size, 1, none⟩ = some (.int .i64 (mWarpY C0 R0 n0 l0 x1 x2)) := G0y1.cell 1; have G0y1_l := G0y1.lt))
    all_goals (try go_wp2_with fail)
    all_goals (go_meet; exact ⟨rfl, E0_1⟩)
  obtain ⟨rfl, H11⟩ := hcut
  obtain ⟨w11, rfl⟩ : ∃ q : World, q = wc := ⟨_, rfl⟩
  have D11 := D10.trans (H11.mono D10.size)
  have z11 := H11.size
  have x0o11 := x0o10.below H11
  have a0x11 := blk_step a0x10 H11
  have W0x11 := blk_step W0x10 H11
  have x0x11 := blk_step x0x10 H11
  have G0x11 := blk_step G0x10 H11
  clear a0f10_0 a0f10_1 a0f10_2
  have a0f11_0 : w11.cell? ⟨w.heap.size, 0, none⟩ = some (.int .i64 C0) := a0x11.cell 0
  have a0f11_1 : w11.cell? ⟨w.heap.size, 1, none⟩ = some (.int .i64 R0) := a0x11.cell 1
  have a0f11_2 : w11.cell? ⟨w.heap.size, 2, none⟩ = some (.slice A0 n0 c0) := a0x11.cell 2
  clear a0l10
  have a0l11 := a0x11.lt
  clear W0f10_0 W0f10_1
  have W0f11_0 : w11.cell? ⟨w4.heap.size, 0, none⟩ = some (.int .i64 (mWarpX C0 R0 n0 l0 x1 x2)) := W0x11.cell 0
  have W0f11_1 : w11.cell? ⟨w4.heap.size, 1, none⟩ = some (.int .i64 (mWarpY C0 R0 n0 l0 x1 x2)) := W0x11.cell 1
  clear W0l10
  have W0l11 := W0x11.lt
  clear x0f10_0 x0f10_1 x0f10_2
  have x0f11_0 : w11.cell? ⟨w6.heap.size, 0, none⟩ = some (.int .i64 C0) := x0x11.cell 0
  have x0f11_1 : w11.cell? ⟨w6.heap.size, 1, none⟩ = some (.int .i64 R0) := x0x11.cell 1
  have x0f11_2 : w11.cell? ⟨w6.heap.size, 2, none⟩ = some (.slice (some ⟨Bx0, 0, none⟩) n0 n0) := x0x11.cell 2
  clear x0l10
  have x0l11 := x0x11.lt
  clear G0f10_0 G0f10_1
  have G0f11_0 : w11.cell? ⟨w8.heap.size, 0, none⟩ = some (.int .i64 (mWarpX C0 R0 n0 l0 x1 x2)) := G0x11.cell 0
  have G0f11_1 : w11.cell? ⟨w8.heap.size, 1, none⟩ = some (.int .i64 (mWarpY C0 R0 n0 l0 x1 x2)) := G0x11.cell 1
  clear G0l10
  have G0l11 := G0x11.lt
  go_wp2_with fail
  go_ret
  exact ⟨rfl, D11⟩

end Go.Proofs.Ytddcbieomklhnaa
