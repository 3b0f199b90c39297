/- FnExactReadMesh returns true at every input: the walk. No condition beyond those that every argument meets. -/
import Derived.Test.YtikonccofaiceaaDoorReadMeshI
import Derived.Test.YtikonccofaiceaaDoorSMesh
import Derived.Deep.RegionHeld3
import Derived.Deep.DeepCutAuto
namespace Go.Proofs.YtikonccofaiceaaDoor
open Go.RowKit Go.Lib Go.Ks
set_option linter.unusedVariables false
set_option maxRecDepth 100000 in
set_option maxHeartbeats 4000000 in
theorem lawReadMesh (x0 : ByteArray) (w : World) (z0 : x0.size ≤ 9223372036854775807) (hT : LibV w) :
    Calls Tryd.prog 4 #[.string x0] w fun e w' => e = .returned (.bool true) ∧ Below w.heap.size w w' := by
  have D0 := Below.refl w.heap.size w
  go_enter Tryd.func4, Tryd.ntmps4
  by_cases m0 : x0.size ≤ 1048576
  rotate_left
  · go_wp2_with fail
    go_ret
    exact ⟨rfl, D0⟩
  have mm := mReadMesh_len x0
  go_wp2_with fail
  refine (specReadMesh_any x0 _ m0).mono ?_
  rintro e w1 ⟨⟨AW, cW, rfl, oW, iW⟩, H1⟩
  have D1 := D0.trans (H1.mono D0.size)
  have z1 := H1.size
  have WU := oW.und
  have WO := oW.over
  go_wp2_with fail
  generalize hW2 : (w1.alloc (.cells #[.int .i64 (mReadMeshA x0), .int .i64 (mReadMeshB x0), .slice AW (mReadMeshN x0) cW] 29)) = w2
  have H2 : Below w1.heap.size w1 w2 := by rw [← hW2]; repeat (first | with_reducible exact Below.refl _ _ | with_reducible assumption | with_reducible refine Below.setCell ?_ (by simp <;> omega) _ | with_reducible refine Below.alloc ?_ (by simp <;> omega) _ | with_reducible refine Below.drew ?_)
  have W0x2 : Blk w2 (w1.heap.size) 29 #[.int .i64 (mReadMeshA x0), .int .i64 (mReadMeshB x0), .slice AW (mReadMeshN x0) cW] := by rw [← hW2]; exact Blk.new w1 29 #[.int .i64 (mReadMeshA x0), .int .i64 (mReadMeshB x0), .slice AW (mReadMeshN x0) cW]
  clear hW2
  have D2 := D1.trans (H2.mono D1.size)
  have z2 := H2.size
  have Wo2 := oW.below H2
  have W0f2_0 : w2.cell? ⟨w1.heap.size, 0, none⟩ = some (.int .i64 (mReadMeshA x0)) := W0x2.cell 0
  have W0f2_1 : w2.cell? ⟨w1.heap.size, 1, none⟩ = some (.int .i64 (mReadMeshB x0)) := W0x2.cell 1
  have W0f2_2 : w2.cell? ⟨w1.heap.size, 2, none⟩ = some (.slice AW (mReadMeshN x0) cW) := W0x2.cell 2
  have W0l2 := W0x2.lt
  refine (implReadMesh_any x0 _ m0 (hT.below D2)).mono ?_
  rintro e w3 ⟨⟨AG, cG, rfl, oG, iG⟩, H3⟩
  have D3 := D2.trans (H3.mono D2.size)
  have z3 := H3.size
  have Wo3 := Wo2.below H3
  have W0x3 := blk_step W0x2 H3
  clear W0f2_0 W0f2_1 W0f2_2
  have W0f3_0 : w3.cell? ⟨w1.heap.size, 0, none⟩ = some (.int .i64 (mReadMeshA x0)) := W0x3.cell 0
  have W0f3_1 : w3.cell? ⟨w1.heap.size, 1, none⟩ = some (.int .i64 (mReadMeshB x0)) := W0x3.cell 1
  have W0f3_2 : w3.cell? ⟨w1.heap.size, 2, none⟩ = some (.slice AW (mReadMeshN x0) cW) := W0x3.cell 2
  clear W0l2
  have W0l3 := W0x3.lt
  have GU := oG.und
  have GO := oG.over
  go_wp2_with fail
  generalize hW4 : (w3.alloc (.cells #[.int .i64 (mReadMeshA x0), .int .i64 (mReadMeshB x0), .slice AG (mReadMeshN x0) cG] 29)) = w4
  have H4 : Below w3.heap.size w3 w4 := by rw [← hW4]; repeat (first | with_reducible exact Below.refl _ _ | with_reducible assumption | with_reducible refine Below.setCell ?_ (by simp <;> omega) _ | with_reducible refine Below.alloc ?_ (by simp <;> omega) _ | with_reducible refine Below.drew ?_)
  have G0x4 : Blk w4 (w3.heap.size) 29 #[.int .i64 (mReadMeshA x0), .int .i64 (mReadMeshB x0), .slice AG (mReadMeshN x0) cG] := by rw [← hW4]; exact Blk.new w3 29 #[.int .i64 (mReadMeshA x0), .int .i64 (mReadMeshB x0), .slice AG (mReadMeshN x0) cG]
  clear hW4
  have D4 := D3.trans (H4.mono D3.size)
  have z4 := H4.size
  have Wo4 := Wo3.below H4
  have Go4 := oG.below H4
  have W0x4 := blk_step W0x3 H4
  clear W0f3_0 W0f3_1 W0f3_2
  have W0f4_0 : w4.cell? ⟨w1.heap.size, 0, none⟩ = some (.int .i64 (mReadMeshA x0)) := W0x4.cell 0
  have W0f4_1 : w4.cell? ⟨w1.heap.size, 1, none⟩ = some (.int .i64 (mReadMeshB x0)) := W0x4.cell 1
  have W0f4_2 : w4.cell? ⟨w1.heap.size, 2, none⟩ = some (.slice AW (mReadMeshN x0) cW) := W0x4.cell 2
  clear W0l3
  have W0l4 := W0x4.lt
  have G0f4_0 : w4.cell? ⟨w3.heap.size, 0, none⟩ = some (.int .i64 (mReadMeshA x0)) := G0x4.cell 0
  have G0f4_1 : w4.cell? ⟨w3.heap.size, 1, none⟩ = some (.int .i64 (mReadMeshB x0)) := G0x4.cell 1
  have G0f4_2 : w4.cell? ⟨w3.heap.size, 2, none⟩ = some (.slice AG (mReadMeshN x0) cG) := G0x4.cell 2
  have G0l4 := G0x4.lt
  refine (eqMesh_yes (mReadMeshA x0) (mReadMeshB x0) _ _ (mReadMeshN x0) _ _ (mReadMeshL x0) _ (by omega) Go4.sl Wo4.sl).mono ?_
  rintro e w5 ⟨rfl, H5⟩
  have D5 := D4.trans (H5.mono D4.size)
  have z5 := H5.size
  have Wo5 := Wo4.below H5
  have Go5 := Go4.below H5
  have W0x5 := blk_step W0x4 H5
  have G0x5 := blk_step G0x4 H5
  clear W0f4_0 W0f4_1 W0f4_2
  have W0f5_0 : w5.cell? ⟨w1.heap.size, 0, none⟩ = some (.int .i64 (mReadMeshA x0)) := W0x5.cell 0
  have W0f5_1 : w5.cell? ⟨w1.heap.size, 1, none⟩ = some (.int .i64 (mReadMeshB x0)) := W0x5.cell 1
  have W0f5_2 : w5.cell? ⟨w1.heap.size, 2, none⟩ = some (.slice AW (mReadMeshN x0) cW) := W0x5.cell 2
  clear W0l4
  have W0l5 := W0x5.lt
  clear G0f4_0 G0f4_1 G0f4_2
  have G0f5_0 : w5.cell? ⟨w3.heap.size, 0, none⟩ = some (.int .i64 (mReadMeshA x0)) := G0x5.cell 0
  have G0f5_1 : w5.cell? ⟨w3.heap.size, 1, none⟩ = some (.int .i64 (mReadMeshB x0)) := G0x5.cell 1
  have G0f5_2 : w5.cell? ⟨w3.heap.size, 2, none⟩ = some (.slice AG (mReadMeshN x0) cG) := G0x5.cell 2
  clear G0l4
  have G0l5 := G0x5.lt
  go_wp2_with fail
  refine (markMesh_any (mReadMeshA x0) (mReadMeshB x0) _ _ (mReadMeshN x0) _ 1 (SpotC (mReadMeshL x0)) _ (by omega) (by omega) (by omega) Go5 iG).mono ?_
  rintro e w6 ⟨rfl, G6, Go6⟩
  have z6 := G6.size
  have Wo6 := Wo5.kept (fun a b ha hb => by have h1 := WU a ha; have h2 := GO b hb; omega) G6
  have W0x6 := blk_kept_own W0x5 Go5 (by decide) G6
  have G0x6 := blk_kept_own G0x5 Go5 (by decide) G6
  have D6 := Below.only D5 (fun ad h => by have h1 := GO ad h; omega) D5.size G6
  clear W0f5_0 W0f5_1 W0f5_2
  have W0f6_0 : w6.cell? ⟨w1.heap.size, 0, none⟩ = some (.int .i64 (mReadMeshA x0)) := W0x6.cell 0
  have W0f6_1 : w6.cell? ⟨w1.heap.size, 1, none⟩ = some (.int .i64 (mReadMeshB x0)) := W0x6.cell 1
  have W0f6_2 : w6.cell? ⟨w1.heap.size, 2, none⟩ = some (.slice AW (mReadMeshN x0) cW) := W0x6.cell 2
  clear W0l5
  have W0l6 := W0x6.lt
  clear G0f5_0 G0f5_1 G0f5_2
  have G0f6_0 : w6.cell? ⟨w3.heap.size, 0, none⟩ = some (.int .i64 (mReadMeshA x0)) := G0x6.cell 0
  have G0f6_1 : w6.cell? ⟨w3.heap.size, 1, none⟩ = some (.int .i64 (mReadMeshB x0)) := G0x6.cell 1
  have G0f6_2 : w6.cell? ⟨w3.heap.size, 2, none⟩ = some (.slice AG (mReadMeshN x0) cG) := G0x6.cell 2
  clear G0l5
  have G0l6 := G0x6.lt
  go_wp2_with fail
  refine (heldMesh_any (mReadMeshA x0) (mReadMeshB x0) _ (mReadMeshN x0) _ 1 (SpotC (mReadMeshL x0)) _ (by omega) (by omega) (by omega) Go6.sl).mono ?_
  rintro e w7 ⟨rfl, H7⟩
  have D7 := D6.trans (H7.mono D6.size)
  have z7 := H7.size
  have Wo7 := Wo6.below H7
  have Go7 := Go6.below H7
  have W0x7 := blk_step W0x6 H7
  have G0x7 := blk_step G0x6 H7
  clear W0f6_0 W0f6_1 W0f6_2
  have W0f7_0 : w7.cell? ⟨w1.heap.size, 0, none⟩ = some (.int .i64 (mReadMeshA x0)) := W0x7.cell 0
  have W0f7_1 : w7.cell? ⟨w1.heap.size, 1, none⟩ = some (.int .i64 (mReadMeshB x0)) := W0x7.cell 1
  have W0f7_2 : w7.cell? ⟨w1.heap.size, 2, none⟩ = some (.slice AW (mReadMeshN x0) cW) := W0x7.cell 2
  clear W0l6
  have W0l7 := W0x7.lt
  clear G0f6_0 G0f6_1 G0f6_2
  have G0f7_0 : w7.cell? ⟨w3.heap.size, 0, none⟩ = some (.int .i64 (mReadMeshA x0)) := G0x7.cell 0
  have G0f7_1 : w7.cell? ⟨w3.heap.size, 1, none⟩ = some (.int .i64 (mReadMeshB x0)) := G0x7.cell 1
  have G0f7_2 : w7.cell? ⟨w3.heap.size, 2, none⟩ = some (.slice AG (mReadMeshN x0) cG) := G0x7.cell 2
  clear G0l6
  have G0l7 := G0x7.lt
  go_wp2_with fail
  refine (implReadMesh_any x0 _ m0 (hT.below D7)).mono ?_
  rintro e w8 ⟨⟨AH, cH, rfl, oH, iH⟩, H8⟩
  have D8 := D7.trans (H8.mono D7.size)
  have z8 := H8.size
  have Wo8 := Wo7.below H8
  have Go8 := Go7.below H8
  have W0x8 := blk_step W0x7 H8
  have G0x8 := blk_step G0x7 H8
  clear W0f7_0 W0f7_1 W0f7_2
  have W0f8_0 : w8.cell? ⟨w1.heap.size, 0, none⟩ = some (.int .i64 (mReadMeshA x0)) := W0x8.cell 0
  have W0f8_1 : w8.cell? ⟨w1.heap.size, 1, none⟩ = some (.int .i64 (mReadMeshB x0)) := W0x8.cell 1
  have W0f8_2 : w8.cell? ⟨w1.heap.size, 2, none⟩ = some (.slice AW (mReadMeshN x0) cW) := W0x8.cell 2
  clear W0l7
  have W0l8 := W0x8.lt
  clear G0f7_0 G0f7_1 G0f7_2
  have G0f8_0 : w8.cell? ⟨w3.heap.size, 0, none⟩ = some (.int .i64 (mReadMeshA x0)) := G0x8.cell 0
  have G0f8_1 : w8.cell? ⟨w3.heap.size, 1, none⟩ = some (.int .i64 (mReadMeshB x0)) := G0x8.cell 1
  have G0f8_2 : w8.cell? ⟨w3.heap.size, 2, none⟩ = some (.slice AG (mReadMeshN x0) cG) := G0x8.cell 2
  clear G0l7
  have G0l8 := G0x8.lt
  have HU := oH.und
  have HO := oH.over
  go_wp2_with fail
  generalize hW9 : (w8.alloc (.cells #[.int .i64 (mReadMeshA x0), .int .i64 (mReadMeshB x0), .slice AH (mReadMeshN x0) cH] 29)) = w9
  have H9 : Below w8.heap.size w8 w9 := by rw [← hW9]; repeat (first | with_reducible exact Below.refl _ _ | with_reducible assumption | with_reducible refine Below.setCell ?_ (by simp <;> omega) _ | with_reducible refine Below.alloc ?_ (by simp <;> omega) _ | with_reducible refine Below.drew ?_)
  have H0x9 : Blk w9 (w8.heap.size) 29 #[.int .i64 (mReadMeshA x0), .int .i64 (mReadMeshB x0), .slice AH (mReadMeshN x0) cH] := by rw [← hW9]; exact Blk.new w8 29 #[.int .i64 (mReadMeshA x0), .int .i64 (mReadMeshB x0), .slice AH (mReadMeshN x0) cH]
  clear hW9
  have D9 := D8.trans (H9.mono D8.size)
  have z9 := H9.size
  have Wo9 := Wo8.below H9
  have Go9 := Go8.below H9
  have Ho9 := oH.below H9
  have W0x9 := blk_step W0x8 H9
  have G0x9 := blk_step G0x8 H9
  clear W0f8_0 W0f8_1 W0f8_2
  have W0f9_0 : w9.cell? ⟨w1.heap.size, 0, none⟩ = some (.int .i64 (mReadMeshA x0)) := W0x9.cell 0
  have W0f9_1 : w9.cell? ⟨w1.heap.size, 1, none⟩ = some (.int .i64 (mReadMeshB x0)) := W0x9.cell 1
  have W0f9_2 : w9.cell? ⟨w1.heap.size, 2, none⟩ = some (.slice AW (mReadMeshN x0) cW) := W0x9.cell 2
  clear W0l8
  have W0l9 := W0x9.lt
  clear G0f8_0 G0f8_1 G0f8_2
  have G0f9_0 : w9.cell? ⟨w3.heap.size, 0, none⟩ = some (.int .i64 (mReadMeshA x0)) := G0x9.cell 0
  have G0f9_1 : w9.cell? ⟨w3.heap.size, 1, none⟩ = some (.int .i64 (mReadMeshB x0)) := G0x9.cell 1
  have G0f9_2 : w9.cell? ⟨w3.heap.size, 2, none⟩ = some (.slice AG (mReadMeshN x0) cG) := G0x9.cell 2
  clear G0l8
  have G0l9 := G0x9.lt
  have H0f9_0 : w9.cell? ⟨w8.heap.size, 0, none⟩ = some (.int .i64 (mReadMeshA x0)) := H0x9.cell 0
  have H0f9_1 : w9.cell? ⟨w8.heap.size, 1, none⟩ = some (.int .i64 (mReadMeshB x0)) := H0x9.cell 1
  have H0f9_2 : w9.cell? ⟨w8.heap.size, 2, none⟩ = some (.slice AH (mReadMeshN x0) cH) := H0x9.cell 2
  have H0l9 := H0x9.lt
  refine (eqMesh_yes (mReadMeshA x0) (mReadMeshB x0) _ _ (mReadMeshN x0) _ _ (mReadMeshL x0) _ (by omega) Ho9.sl Wo9.sl).mono ?_
  rintro e w10 ⟨rfl, H10⟩
  have D10 := D9.trans (H10.mono D9.size)
  have z10 := H10.size
  have Wo10 := Wo9.below H10
  have Go10 := Go9.below H10
  have Ho10 := Ho9.below H10
  have W0x10 := blk_step W0x9 H10
  have G0x10 := blk_step G0x9 H10
  have H0x10 := blk_step H0x9 H10
  clear W0f9_0 W0f9_1 W0f9_2
  have W0f10_0 : w10.cell? ⟨w1.heap.size, 0, none⟩ = some (.int .i64 (mReadMeshA x0)) := W0x10.cell 0
  have W0f10_1 : w10.cell? ⟨w1.heap.size, 1, none⟩ = some (.int .i64 (mReadMeshB x0)) := W0x10.cell 1
  have W0f10_2 : w10.cell? ⟨w1.heap.size, 2, none⟩ = some (.slice AW (mReadMeshN x0) cW) := W0x10.cell 2
  clear W0l9
  have W0l10 := W0x10.lt
  clear G0f9_0 G0f9_1 G0f9_2
  have G0f10_0 : w10.cell? ⟨w3.heap.size, 0, none⟩ = some (.int .i64 (mReadMeshA x0)) := G0x10.cell 0
  have G0f10_1 : w10.cell? ⟨w3.heap.size, 1, none⟩ = some (.int .i64 (mReadMeshB x0)) := G0x10.cell 1
  have G0f10_2 : w10.cell? ⟨w3.heap.size, 2, none⟩ = some (.slice AG (mReadMeshN x0) cG) := G0x10.cell 2
  clear G0l9
  have G0l10 := G0x10.lt
  clear H0f9_0 H0f9_1 H0f9_2
  have H0f10_0 : w10.cell? ⟨w8.heap.size, 0, none⟩ = some (.int .i64 (mReadMeshA x0)) := H0x10.cell 0
  have H0f10_1 : w10.cell? ⟨w8.heap.size, 1, none⟩ = some (.int .i64 (mReadMeshB x0)) := H0x10.cell 1
  have H0f10_2 : w10.cell? ⟨w8.heap.size, 2, none⟩ = some (.slice AH (mReadMeshN x0) cH) := H0x10.cell 2
  clear H0l9
  have H0l10 := H0x10.lt
  go_wp2_with fail
  refine (heldMesh_any (mReadMeshA x0) (mReadMeshB x0) _ (mReadMeshN x0) _ 1 (SpotC (mReadMeshL x0)) _ (by omega) (by omega) (by omega) Go10.sl).mono ?_
  rintro e w11 ⟨rfl, H11⟩
  have D11 := D10.trans (H11.mono D10.size)
  have z11 := H11.size
  have Wo11 := Wo10.below H11
  have Go11 := Go10.below H11
  have Ho11 := Ho10.below H11
  have W0x11 := blk_step W0x10 H11
  have G0x11 := blk_step G0x10 H11
  have H0x11 := blk_step H0x10 H11
  clear W0f10_0 W0f10_1 W0f10_2
  have W0f11_0 : w11.cell? ⟨w1.heap.size, 0, none⟩ = some (.int .i64 (mReadMeshA x0)) := W0x11.cell 0
  have W0f11_1 : w11.cell? ⟨w1.heap.size, 1, none⟩ = some (.int .i64 (mReadMeshB x0)) := W0x11.cell 1
  have W0f11_2 : w11.cell? ⟨w1.heap.size, 2, none⟩ = some (.slice AW (mReadMeshN x0) cW) := W0x11.cell 2
  clear W0l10
  have W0l11 := W0x11.lt
  clear G0f10_0 G0f10_1 G0f10_2
  have G0f11_0 : w11.cell? ⟨w3.heap.size, 0, none⟩ = some (.int .i64 (mReadMeshA x0)) := G0x11.cell 0
  have G0f11_1 : w11.cell? ⟨w3.heap.size, 1, none⟩ = some (.int .i64 (mReadMeshB x0)) := G0x11.cell 1
  have G0f11_2 : w11.cell? ⟨w3.heap.size, 2, none⟩ = some (.slice AG (mReadMeshN x0) cG) := G0x11.cell 2
  clear G0l10
  have G0l11 := G0x11.lt
  clear H0f10_0 H0f10_1 H0f10_2
  have H0f11_0 : w11.cell? ⟨w8.heap.size, 0, none⟩ = some (.int .i64 (mReadMeshA x0)) := H0x11.cell 0
  have H0f11_1 : w11.cell? ⟨w8.heap.size, 1, none⟩ = some (.int .i64 (mReadMeshB x0)) := H0x11.cell 1
  have H0f11_2 : w11.cell? ⟨w8.heap.size, 2, none⟩ = some (.slice AH (mReadMeshN x0) cH) := H0x11.cell 2
  clear H0l10
  have H0l11 := H0x11.lt
  go_wp2_with fail
  go_ret
  exact ⟨rfl, D11⟩

end Go.Proofs.YtikonccofaiceaaDoor
