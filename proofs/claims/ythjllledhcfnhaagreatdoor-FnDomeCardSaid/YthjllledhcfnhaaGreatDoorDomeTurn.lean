/- Tilted and level directions. Conditions: the arguments are int64; the sizes of strings; the variable sines holds its table. -/
import Derived.Test.YthjllledhcfnhaaGreatDoorDomeSpec
namespace Go.Ks
/-- an answer with two conditions; its code -/
def sel (b c : Bool) (v : Int) : Int := if b && c then v else 0
def code2 (b c : Bool) : Int := if b then (if c then 0 else 2) else 1
theorem sel_no {b c : Bool} (h : b = false) (v : Int) : sel b c v = 0 := by rw [h]; rfl
theorem sel_out {b c : Bool} (h : c = false) (v : Int) : sel b c v = 0 := by unfold sel; rw [h, Bool.and_false]; rfl
theorem sel_in {b c : Bool} (h : b = true) (h' : c = true) (v : Int) : sel b c v = v := by rw [h, h']; rfl
theorem code2_no {b c : Bool} (h : b = false) : code2 b c = 1 := by rw [h]; rfl
theorem code2_out {b c : Bool} (h : b = true) (h' : c = false) : code2 b c = 2 := by rw [h, h']; rfl
theorem code2_in {b c : Bool} (h : b = true) (h' : c = true) : code2 b c = 0 := by rw [h, h']; rfl
theorem b_cases (b : Bool) : b = false ∨ b = true := by cases b <;> simp
end Go.Ks
namespace Go.Proofs.YthjllledhcfnhaaGreatDoor
open Go.RowKit Go.Lib Go.Ks
set_option maxHeartbeats 1000000 in
theorem validDome_any (x : DomeD) (w : World) (hok : x.f0.size ≤ 9223372036854775807) :
    Calls Tryz.prog 64 #[.agg #[.string x.f0, .int .i64 x.f1, .int .i64 x.f2]] w fun e w' => e = .returned (.bool (domeB x)) ∧ Below w.heap.size w w' := by
  rcases dome_split x with ⟨a0, E⟩ | ⟨a0, a1, E⟩ | ⟨a0, a1, E⟩
  all_goals
    have EE := Lib.hid E
    clear E
    go_enter Tryz.func64, Tryz.ntmps64
    go_wp2_with (first | (go_at_call 96; refine (isName_eq _ (by assumption) _).mono ?_; rintro e w' ⟨rfl, rfl⟩) | (go_at_call 60; refine (within_eq _ _ _ _).mono ?_; rintro e w' ⟨rfl, rfl⟩))
    go_ret
    refine ⟨ret_bool EE.out.symm, ?_⟩
    repeat (first | with_reducible exact Below.refl _ _ | with_reducible assumption | with_reducible refine Below.setCell ?_ (by simp <;> omega) _ | with_reducible refine Below.alloc ?_ (by simp <;> omega) _ | with_reducible refine Below.drew ?_)
theorem ptV_parts {r : Int} (az alt : Int) (h0 : 1000 ≤ r) (h1 : r ≤ 30000) : (-30000000000 ≤ r * (dirV (nrm (90000 - az)) alt).f0 ∧ r * (dirV (nrm (90000 - az)) alt).f0 ≤ 30000000000) ∧ (-30000000000 ≤ r * (dirV (nrm (90000 - az)) alt).f1 ∧ r * (dirV (nrm (90000 - az)) alt).f1 ≤ 30000000000) ∧ (-30000000000 ≤ r * (dirV (nrm (90000 - az)) alt).f2 ∧ r * (dirV (nrm (90000 - az)) alt).f2 ≤ 30000000000) := by
  obtain ⟨d0, d1, d2⟩ := dirV_bd (nrm (90000 - az)) alt
  exact ⟨r_mul (by omega) h1 d0, r_mul (by omega) h1 d1, r_mul (by omega) h1 d2⟩
set_option maxRecDepth 100000 in
set_option maxHeartbeats 2000000 in
theorem domeVector_any (az alt : Int) (w : World) (ha : 0 ≤ az ∧ az ≤ 359999) (hl : I64 alt) (hT : Tab w) :
    Calls Tryz.prog 99 #[.int .i64 az, .int .i64 alt] w fun e w' => e = .returned (.agg #[.int .i64 (dirV (nrm (90000 - az)) alt).f0, .int .i64 (dirV (nrm (90000 - az)) alt).f1, .int .i64 (dirV (nrm (90000 - az)) alt).f2]) ∧ Below w.heap.size w w' := by
  obtain ⟨n0, n1⟩ := nrm_bd (90000 - az)
  have HT := Lib.hid hT
  clear hT
  go_enter Tryz.func99, Tryz.ntmps99
  go_wp2_with fail
  generalize hW : World.alloc w _ = w1
  have HB := below_alloc hW
  have x0 := blk_alloc hW
  clear hW
  refine (normalAngle_eq _ (by omega) (by omega) _).mono ?_
  rintro e w2 ⟨rfl, rfl⟩
  go_wp2_with fail
  refine (directionOf_any _ _ ⟨by omega, by omega⟩ hl _ (HT.out.below HB)).mono ?_
  rintro e w3 ⟨rfl, hb3⟩
  replace HB := HB.trans (hb3.mono HB.size)
  replace x0 := x0.below hb3 x0.lt
  have e0 := x0.cell 0
  have e1 := x0.cell 1
  have e2 := x0.cell 2
  simp at e0 e1 e2
  have el := x0.lt
  have eg0 := x0.frozen 0
  have eg1 := x0.frozen 1
  have eg2 := x0.frozen 2
  go_wp2_with fail
  refine bodyPost_ret (v := .agg #[.int .i64 (dirV (nrm (90000 - az)) alt).f0, .int .i64 (dirV (nrm (90000 - az)) alt).f1, .int .i64 (dirV (nrm (90000 - az)) alt).f2]) (by simp [results, Tryz.results99, go_sem, e0, e1, e2]) rfl ⟨rfl, ?_⟩
  repeat (first | with_reducible exact Below.refl _ _ | with_reducible assumption | with_reducible refine Below.setCell ?_ (by simp <;> omega) _ | with_reducible refine Below.alloc ?_ (by simp <;> omega) _ | with_reducible refine Below.drew ?_)
end Go.Proofs.YthjllledhcfnhaaGreatDoor
namespace Go.Proofs.YthjllledhcfnhaaGreatDoor
open Go.RowKit Go.Lib Go.Ks
set_option maxRecDepth 100000 in
set_option maxHeartbeats 4000000 in
theorem domeAngles_any (v : VectorD) (hv : Vb 2000000 v) (w : World) (hT : Tab w) :
    Calls Tryz.prog 100 #[.agg #[.int .i64 v.f0, .int .i64 v.f1, .int .i64 v.f2]] w fun e w' => e = .returned (.tuple #[.int .i64 (nrm (90000 - angA v)), .int .i64 (angB v)]) ∧ Below w.heap.size w w' := by
  obtain ⟨⟨q1, q2⟩, ⟨q3, q4⟩, q5, q6⟩ := sum2_bd hv (by omega) (by omega)
  obtain ⟨x, y, z⟩ := v
  obtain ⟨⟨v1, v2⟩, ⟨v3, v4⟩, v5, v6⟩ := hv
  dsimp only at *
  have HT := Lib.hid hT
  clear hT
  have HA := Lib.hid (by rfl : angA ⟨x, y, z⟩ = arct y x)
  have HB2 := Lib.hid (by rfl : angB ⟨x, y, z⟩ = if 90000 < arct z (iroot (x * x + y * y)) then arct z (iroot (x * x + y * y)) - 360000 else arct z (iroot (x * x + y * y)))
  obtain ⟨l0, l1⟩ := arct_bd z (iroot (x * x + y * y))
  obtain ⟨a0, a1⟩ := arct_bd y x
  by_cases hx : x = 0
  · by_cases hy : y = 0
    · subst hx hy
      have hs : (0 : Int) * 0 + 0 * 0 = 0 := rfl
      rw [hs] at q5 q6 l0 l1 HB2
      replace HA := Lib.hid (HA.out.trans arct_zero)
      by_cases g : 90000 < arct z (iroot 0)
      · have E2 := Lib.hid (by rw [HB2.out]; exact if_pos g : angB ⟨0, 0, z⟩ = arct z (iroot 0) - 360000)
        go_enter Tryz.func100, Tryz.ntmps100
        go_wp2_with fail
        generalize hW : World.alloc w _ = w1
        have HB : Below w.heap.size w w1 := by rw [← hW]; repeat (first | with_reducible exact Below.refl _ _ | with_reducible assumption | with_reducible refine Below.setCell ?_ (by simp <;> omega) _ | with_reducible refine Below.alloc ?_ (by simp <;> omega) _ | with_reducible refine Below.drew ?_)
        have x0 : Blk w1 w.heap.size 97 #[.int .i64 0, .int .i64 0, .int .i64 z] := by rw [← hW]; exact Blk.new w _ _
        clear hW
        have d0 := x0.cell 0
        have d1 := x0.cell 1
        have d2 := x0.cell 2
        simp at d0 d1 d2
        have dl := x0.lt
        have TT := Lib.hid (HT.out.below HB)
        refine wp_region_ext (by kernel_rfl) (by kernel_rfl) ?_
        repeat (go_big_quiet_step ((first | (go_at_call 61; exact quiet_ext ((rootOf_eq _ (by omega) _).mono fun _ _ h => ⟨h.1, h.2 ▸ Below.refl _ _⟩)) | (go_at_call 62; exact quiet_ext (arcTangent_any _ _ (by omega) (by omega) _ (TT.out.below (ExtW.below _)))))))
        refine wpQuiet_nil ?_
        intro e1
        replace HB := HB.trans (e1.below.mono HB.size)
        go_wp2_with fail
        refine (normalAngle_eq _ (by omega) (by omega) _).mono ?_
        rintro e w4 ⟨rfl, rfl⟩
        go_wp2_with fail
        go_ret2
        exact ⟨ret_tup (congrArg nrm (by rw [HA.out]; try rfl)) E2.out.symm, HB⟩
      · have E2 := Lib.hid (by rw [HB2.out]; exact if_neg g : angB ⟨0, 0, z⟩ = arct z (iroot 0))
        go_enter Tryz.func100, Tryz.ntmps100
        go_wp2_with fail
        generalize hW : World.alloc w _ = w1
        have HB : Below w.heap.size w w1 := by rw [← hW]; repeat (first | with_reducible exact Below.refl _ _ | with_reducible assumption | with_reducible refine Below.setCell ?_ (by simp <;> omega) _ | with_reducible refine Below.alloc ?_ (by simp <;> omega) _ | with_reducible refine Below.drew ?_)
        have x0 : Blk w1 w.heap.size 97 #[.int .i64 0, .int .i64 0, .int .i64 z] := by rw [← hW]; exact Blk.new w _ _
        clear hW
        have d0 := x0.cell 0
        have d1 := x0.cell 1
        have d2 := x0.cell 2
        simp at d0 d1 d2
        have dl := x0.lt
        have TT := Lib.hid (HT.out.below HB)
        refine wp_region_ext (by kernel_rfl) (by kernel_rfl) ?_
        repeat (go_big_quiet_step ((first | (go_at_call 61; exact quiet_ext ((rootOf_eq _ (by omega) _).mono fun _ _ h => ⟨h.1, h.2 ▸ Below.refl _ _⟩)) | (go_at_call 62; exact quiet_ext (arcTangent_any _ _ (by omega) (by omega) _ (TT.out.below (ExtW.below _)))))))
        refine wpQuiet_nil ?_
        intro e1
        replace HB := HB.trans (e1.below.mono HB.size)
        go_wp2_with fail
        refine (normalAngle_eq _ (by omega) (by omega) _).mono ?_
        rintro e w4 ⟨rfl, rfl⟩
        go_wp2_with fail
        go_ret2
        exact ⟨ret_tup (congrArg nrm (by rw [HA.out]; try rfl)) E2.out.symm, HB⟩
    · subst hx
      have hs : (0 : Int) * 0 + y * y = y * y := by omega
      rw [hs] at q5 q6 l0 l1 HB2
      have hy1 : (y != 0) = true := by simpa using hy
      have hy2 : (y == 0) = false := by simpa using hy
      by_cases g : 90000 < arct z (iroot (y * y))
      · have E2 := Lib.hid (by rw [HB2.out]; exact if_pos g : angB ⟨0, y, z⟩ = arct z (iroot (y * y)) - 360000)
        go_enter Tryz.func100, Tryz.ntmps100
        go_wp2_with fail
        generalize hW : World.alloc w _ = w1
        have HB : Below w.heap.size w w1 := by rw [← hW]; repeat (first | with_reducible exact Below.refl _ _ | with_reducible assumption | with_reducible refine Below.setCell ?_ (by simp <;> omega) _ | with_reducible refine Below.alloc ?_ (by simp <;> omega) _ | with_reducible refine Below.drew ?_)
        have x0 : Blk w1 w.heap.size 97 #[.int .i64 0, .int .i64 y, .int .i64 z] := by rw [← hW]; exact Blk.new w _ _
        clear hW
        refine (arcTangent_any _ _ (by omega) (by omega) _ (HT.out.below HB)).mono ?_
        rintro e w2 ⟨rfl, hb2⟩
        replace HB := HB.trans (hb2.mono HB.size)
        replace x0 := x0.below hb2 x0.lt
        have d0 := x0.cell 0
        have d1 := x0.cell 1
        have d2 := x0.cell 2
        simp at d0 d1 d2
        have dl := x0.lt
        go_wp2_with fail
        have TT := Lib.hid (HT.out.below HB)
        refine wp_region_ext (by kernel_rfl) (by kernel_rfl) ?_
        repeat (go_big_quiet_step ((first | (go_at_call 61; exact quiet_ext ((rootOf_eq _ (by omega) _).mono fun _ _ h => ⟨h.1, h.2 ▸ Below.refl _ _⟩)) | (go_at_call 62; exact quiet_ext (arcTangent_any _ _ (by omega) (by omega) _ (TT.out.below (ExtW.below _)))))))
        refine wpQuiet_nil ?_
        intro e1
        replace HB := HB.trans (e1.below.mono HB.size)
        go_wp2_with fail
        refine (normalAngle_eq _ (by omega) (by omega) _).mono ?_
        rintro e w4 ⟨rfl, rfl⟩
        go_wp2_with fail
        go_ret2
        exact ⟨ret_tup (congrArg nrm (by rw [HA.out]; try rfl)) E2.out.symm, HB⟩
      · have E2 := Lib.hid (by rw [HB2.out]; exact if_neg g : angB ⟨0, y, z⟩ = arct z (iroot (y * y)))
        go_enter Tryz.func100, Tryz.ntmps100
        go_wp2_with fail
        generalize hW : World.alloc w _ = w1
        have HB : Below w.heap.size w w1 := by rw [← hW]; repeat (first | with_reducible exact Below.refl _ _ | with_reducible assumption | with_reducible refine Below.setCell ?_ (by simp <;> omega) _ | with_reducible refine Below.alloc ?_ (by simp <;> omega) _ | with_reducible refine Below.drew ?_)
        have x0 : Blk w1 w.heap.size 97 #[.int .i64 0, .int .i64 y, .int .i64 z] := by rw [← hW]; exact Blk.new w _ _
        clear hW
        refine (arcTangent_any _ _ (by omega) (by omega) _ (HT.out.below HB)).mono ?_
        rintro e w2 ⟨rfl, hb2⟩
        replace HB := HB.trans (hb2.mono HB.size)
        replace x0 := x0.below hb2 x0.lt
        have d0 := x0.cell 0
        have d1 := x0.cell 1
        have d2 := x0.cell 2
        simp at d0 d1 d2
        have dl := x0.lt
        go_wp2_with fail
        have TT := Lib.hid (HT.out.below HB)
        refine wp_region_ext (by kernel_rfl) (by kernel_rfl) ?_
        repeat (go_big_quiet_step ((first | (go_at_call 61; exact quiet_ext ((rootOf_eq _ (by omega) _).mono fun _ _ h => ⟨h.1, h.2 ▸ Below.refl _ _⟩)) | (go_at_call 62; exact quiet_ext (arcTangent_any _ _ (by omega) (by omega) _ (TT.out.below (ExtW.below _)))))))
        refine wpQuiet_nil ?_
        intro e1
        replace HB := HB.trans (e1.below.mono HB.size)
        go_wp2_with fail
        refine (normalAngle_eq _ (by omega) (by omega) _).mono ?_
        rintro e w4 ⟨rfl, rfl⟩
        go_wp2_with fail
        go_ret2
        exact ⟨ret_tup (congrArg nrm (by rw [HA.out]; try rfl)) E2.out.symm, HB⟩
  · have hx1 : (x != 0) = true := by simpa using hx
    have hx2 : (x == 0) = false := by simpa using hx
    by_cases g : 90000 < arct z (iroot (x * x + y * y))
    · have E2 := Lib.hid (by rw [HB2.out]; exact if_pos g : angB ⟨x, y, z⟩ = arct z (iroot (x * x + y * y)) - 360000)
      go_enter Tryz.func100, Tryz.ntmps100
      go_wp2_with fail
      generalize hW : World.alloc w _ = w1
      have HB : Below w.heap.size w w1 := by rw [← hW]; repeat (first | with_reducible exact Below.refl _ _ | with_reducible assumption | with_reducible refine Below.setCell ?_ (by simp <;> omega) _ | with_reducible refine Below.alloc ?_ (by simp <;> omega) _ | with_reducible refine Below.drew ?_)
      have x0 : Blk w1 w.heap.size 97 #[.int .i64 x, .int .i64 y, .int .i64 z] := by rw [← hW]; exact Blk.new w _ _
      clear hW
      refine (arcTangent_any _ _ (by omega) (by omega) _ (HT.out.below HB)).mono ?_
      rintro e w2 ⟨rfl, hb2⟩
      replace HB := HB.trans (hb2.mono HB.size)
      replace x0 := x0.below hb2 x0.lt
      have d0 := x0.cell 0
      have d1 := x0.cell 1
      have d2 := x0.cell 2
      simp at d0 d1 d2
      have dl := x0.lt
      go_wp2_with fail
      have TT := Lib.hid (HT.out.below HB)
      refine wp_region_ext (by kernel_rfl) (by kernel_rfl) ?_
      repeat (go_big_quiet_step ((first | (go_at_call 61; exact quiet_ext ((rootOf_eq _ (by omega) _).mono fun _ _ h => ⟨h.1, h.2 ▸ Below.refl _ _⟩)) | (go_at_call 62; exact quiet_ext (arcTangent_any _ _ (by omega) (by omega) _ (TT.out.below (ExtW.below _)))))))
      refine wpQuiet_nil ?_
      intro e1
      replace HB := HB.trans (e1.below.mono HB.size)
      go_wp2_with fail
      refine (normalAngle_eq _ (by omega) (by omega) _).mono ?_
      rintro e w4 ⟨rfl, rfl⟩
      go_wp2_with fail
      go_ret2
      exact ⟨ret_tup (congrArg nrm (by rw [HA.out]; try rfl)) E2.out.symm, HB⟩
    · have E2 := Lib.hid (by rw [HB2.out]; exact if_neg g : angB ⟨x, y, z⟩ = arct z (iroot (x * x + y * y)))
      go_enter Tryz.func100, Tryz.ntmps100
      go_wp2_with fail
      generalize hW : World.alloc w _ = w1
      have HB : Below w.heap.size w w1 := by rw [← hW]; repeat (first | with_reducible exact Below.refl _ _ | with_reducible assumption | with_reducible refine Below.setCell ?_ (by simp <;> omega) _ | with_reducible refine Below.alloc ?_ (by simp <;> omega) _ | with_reducible refine Below.drew ?_)
      have x0 : Blk w1 w.heap.size 97 #[.int .i64 x, .int .i64 y, .int .i64 z] := by rw [← hW]; exact Blk.new w _ _
      clear hW
      refine (arcTangent_any _ _ (by omega) (by omega) _ (HT.out.below HB)).mono ?_
      rintro e w2 ⟨rfl, hb2⟩
      replace HB := HB.trans (hb2.mono HB.size)
      replace x0 := x0.below hb2 x0.lt
      have d0 := x0.cell 0
      have d1 := x0.cell 1
      have d2 := x0.cell 2
      simp at d0 d1 d2
      have dl := x0.lt
      go_wp2_with fail
      have TT := Lib.hid (HT.out.below HB)
      refine wp_region_ext (by kernel_rfl) (by kernel_rfl) ?_
      repeat (go_big_quiet_step ((first | (go_at_call 61; exact quiet_ext ((rootOf_eq _ (by omega) _).mono fun _ _ h => ⟨h.1, h.2 ▸ Below.refl _ _⟩)) | (go_at_call 62; exact quiet_ext (arcTangent_any _ _ (by omega) (by omega) _ (TT.out.below (ExtW.below _)))))))
      refine wpQuiet_nil ?_
      intro e1
      replace HB := HB.trans (e1.below.mono HB.size)
      go_wp2_with fail
      refine (normalAngle_eq _ (by omega) (by omega) _).mono ?_
      rintro e w4 ⟨rfl, rfl⟩
      go_wp2_with fail
      go_ret2
      exact ⟨ret_tup (congrArg nrm (by rw [HA.out]; try rfl)) E2.out.symm, HB⟩
theorem checkedVector_any (v : VectorD) (h : Vb 2000000 v) (w : World) :
    Calls Tryz.prog 121 #[.agg #[.int .i64 v.f0, .int .i64 v.f1, .int .i64 v.f2]] w fun e w' => e = .returned (.tuple #[.agg #[.int .i64 v.f0, .int .i64 v.f1, .int .i64 v.f2], .int .i64 0]) ∧ Below w.heap.size w w' := by
  go_enter Tryz.func121, Tryz.ntmps121
  go_wp2_with fail
  generalize hW : World.alloc (World.alloc w _) _ = w1
  have HB : Below w.heap.size w w1 := by rw [← hW]; repeat (first | with_reducible exact Below.refl _ _ | with_reducible assumption | with_reducible refine Below.setCell ?_ (by simp <;> omega) _ | with_reducible refine Below.alloc ?_ (by simp <;> omega) _ | with_reducible refine Below.drew ?_)
  have x0 : Blk w1 w.heap.size 97 #[.int .i64 v.f0, .int .i64 v.f1, .int .i64 v.f2] := by rw [← hW]; exact (Blk.new w _ _).alloc _
  have r0 : Blk w1 (w.heap.size + 1) 97 #[.int .i64 0, .int .i64 0, .int .i64 0] := by
    have h := blk_alloc hW
    simpa using h
  clear hW
  refine (validVector_any v h _).mono ?_
  rintro e w2 ⟨rfl, hb2⟩
  replace HB := HB.trans (hb2.mono HB.size)
  replace x0 := x0.below hb2 x0.lt
  replace r0 := r0.below hb2 r0.lt
  have d0 := x0.cell 0
  have d1 := x0.cell 1
  have d2 := x0.cell 2
  simp at d0 d1 d2
  have dl := x0.lt
  have e0 := r0.cell 0
  have e1 := r0.cell 1
  have e2 := r0.cell 2
  simp at e0 e1 e2
  have el := r0.lt
  have eg0 := r0.frozen 0
  have eg1 := r0.frozen 1
  have eg2 := r0.frozen 2
  go_wp2_with fail
  refine bodyPost_ret (v := .tuple #[.agg #[.int .i64 v.f0, .int .i64 v.f1, .int .i64 v.f2], .int .i64 0]) (by simp [results, Tryz.results121, go_sem, e0, e1, e2]) rfl ⟨rfl, ?_⟩
  repeat (first | with_reducible exact Below.refl _ _ | with_reducible assumption | with_reducible refine Below.setCell ?_ (by simp <;> omega) _ | with_reducible refine Below.alloc ?_ (by simp <;> omega) _ | with_reducible refine Below.drew ?_)
set_option maxRecDepth 100000 in
set_option maxHeartbeats 4000000 in
theorem rotateAround_any (v : VectorD) (a : Int) (hv : Vb 1000000 v) (ha : I64 a) (w : World) (hT : Tab w) :
    Calls Tryz.prog 98 #[.agg #[.int .i64 v.f0, .int .i64 v.f1, .int .i64 v.f2], .int .i64 1, .int .i64 a] w fun e w' => e = .returned (.tuple #[.agg #[.int .i64 (rotV v a).f0, .int .i64 (rotV v a).f1, .int .i64 (rotV v a).f2], .int .i64 0]) ∧ Below w.heap.size w w' := by
  obtain ⟨⟨a1, a2⟩, b1, b2⟩ := rot_bd a hv
  obtain ⟨c1, c2⟩ := cosi_bd a
  obtain ⟨s1, s2⟩ := sine_bd a
  obtain ⟨p11, p12⟩ := unit_mul hv.2.1.1 hv.2.1.2 c1 c2
  obtain ⟨p21, p22⟩ := unit_mul hv.2.2.1 hv.2.2.2 s1 s2
  obtain ⟨p31, p32⟩ := unit_mul hv.2.1.1 hv.2.1.2 s1 s2
  obtain ⟨p41, p42⟩ := unit_mul hv.2.2.1 hv.2.2.2 c1 c2
  obtain ⟨i1, i2⟩ := ha
  have HT := Lib.hid hT
  clear hT
  go_enter Tryz.func98, Tryz.ntmps98
  go_wp2_with fail
  generalize hW : World.alloc (World.alloc w _) _ = w1
  have HB : Below w.heap.size w w1 := by rw [← hW]; repeat (first | with_reducible exact Below.refl _ _ | with_reducible assumption | with_reducible refine Below.setCell ?_ (by simp <;> omega) _ | with_reducible refine Below.alloc ?_ (by simp <;> omega) _ | with_reducible refine Below.drew ?_)
  have x0 : Blk w1 w.heap.size 97 #[.int .i64 v.f0, .int .i64 v.f1, .int .i64 v.f2] := by rw [← hW]; exact (Blk.new w _ _).alloc _
  have r0 : Blk w1 (w.heap.size + 1) 97 #[.int .i64 0, .int .i64 0, .int .i64 0] := by
    have h := blk_alloc hW
    simpa using h
  clear hW
  refine (validVector_any v (hv.mono (by omega)) _).mono ?_
  rintro e w2 ⟨rfl, hb2⟩
  replace HB := HB.trans (hb2.mono HB.size)
  replace x0 := x0.below hb2 x0.lt
  replace r0 := r0.below hb2 r0.lt
  go_wp2_with fail
  refine (sineOf_any _ i1 i2 _ (HT.out.below HB)).mono ?_
  rintro e w3 ⟨rfl, hb3⟩
  replace HB := HB.trans (hb3.mono HB.size)
  replace x0 := x0.below hb3 x0.lt
  replace r0 := r0.below hb3 r0.lt
  go_wp2_with fail
  refine (cosineOf_any _ i1 i2 _ (HT.out.below HB)).mono ?_
  rintro e w4 ⟨rfl, hb4⟩
  replace HB := HB.trans (hb4.mono HB.size)
  replace x0 := x0.below hb4 x0.lt
  replace r0 := r0.below hb4 r0.lt
  have d0 := x0.cell 0
  have d1 := x0.cell 1
  have d2 := x0.cell 2
  simp at d0 d1 d2
  have dl := x0.lt
  go_wp2_with fail
  refine wp_region_ext_tail 0 22 (by kernel_rfl) (by kernel_rfl) (fun d _ _ _ _ h => by cases d <;> exact h) ?_
  simp only [List.take_succ_cons, List.take_zero, List.drop_succ_cons, List.drop_zero]
  repeat (go_big_quiet_step ((go_at_call 57; exact quiet_ext (nearest_any _ _ (by omega) (by omega) (by omega) (by omega) _))))
  refine wpQuiet_nil ?_
  intro e1
  have hb9 := e1.below
  replace HB := HB.trans (hb9.mono HB.size)
  replace x0 := x0.below hb9 x0.lt
  replace r0 := r0.below hb9 r0.lt
  clear d0 d1 d2 dl
  have d0 := x0.cell 0
  have d1 := x0.cell 1
  have d2 := x0.cell 2
  simp at d0 d1 d2
  have dl := x0.lt
  have dg0 := x0.frozen 0
  have dg1 := x0.frozen 1
  have dg2 := x0.frozen 2
  go_wp2_with fail
  generalize hV : World.setCell _ _ _ = w10
  have HB10 : Below w.heap.size w w10 := by rw [← hV]; repeat (first | with_reducible exact Below.refl _ _ | with_reducible assumption | with_reducible refine Below.setCell ?_ (by simp <;> omega) _ | with_reducible refine Below.alloc ?_ (by simp <;> omega) _ | with_reducible refine Below.drew ?_)
  replace r0 : Blk w10 (w.heap.size + 1) 97 #[.int .i64 0, .int .i64 0, .int .i64 0] := by rw [← hV]; exact ((r0.far (by simp) _).far (by simp) _).far (by simp) _
  clear hV
  refine (checkedVector_any (rotV v a) (rotV_bd a hv) _).mono ?_
  rintro e w11 ⟨rfl, hb11⟩
  replace HB := HB10.trans (hb11.mono HB10.size)
  replace r0 := r0.below hb11 r0.lt
  have e0 := r0.cell 0
  have e1 := r0.cell 1
  have e2 := r0.cell 2
  simp at e0 e1 e2
  have el := r0.lt
  have eg0 := r0.frozen 0
  have eg1 := r0.frozen 1
  have eg2 := r0.frozen 2
  go_wp2_with fail
  refine bodyPost_ret (v := .tuple #[.agg #[.int .i64 (rotV v a).f0, .int .i64 (rotV v a).f1, .int .i64 (rotV v a).f2], .int .i64 0]) (by simp [results, Tryz.results98, go_sem, e0, e1, e2]) rfl ⟨rfl, ?_⟩
  repeat (first | with_reducible exact Below.refl _ _ | with_reducible assumption | with_reducible refine Below.setCell ?_ (by simp <;> omega) _ | with_reducible refine Below.alloc ?_ (by simp <;> omega) _ | with_reducible refine Below.drew ?_)
theorem tilt_nrm (az alt b : Int) : tiltA az alt (nrm b) = tiltA az alt b ∧ tiltB az alt (nrm b) = tiltB az alt b := by unfold tiltA tiltB; rw [rotV_nrm]; exact ⟨rfl, rfl⟩
theorem validDirection_eq (a h : Int) (w : World) :
    Calls Tryz.prog 97 #[.int .i64 a, .int .i64 h] w fun e w' => e = .returned (.bool (dirB a h)) ∧ w = w' := by
  cases q1 : inB a 0 359999
  · have E := Lib.hid (dirB_no1 (h := h) q1)
    go_enter Tryz.func97, Tryz.ntmps97
    go_wp2_with fail
    refine (within_eq _ _ _ _).mono ?_
    rintro e w1 ⟨rfl, rfl⟩
    go_wp2_with fail
    go_ret
    exact ⟨ret_bool E.out.symm, rfl⟩
  · have E := Lib.hid (dirB_eq (h := h) q1)
    go_enter Tryz.func97, Tryz.ntmps97
    go_wp2_with fail
    refine (within_eq _ _ _ _).mono ?_
    rintro e w1 ⟨rfl, rfl⟩
    go_wp2_with fail
    refine (within_eq _ _ _ _).mono ?_
    rintro e w1 ⟨rfl, rfl⟩
    go_wp2_with fail
    go_ret
    exact ⟨ret_bool E.out.symm, rfl⟩
set_option maxRecDepth 100000 in
set_option maxHeartbeats 2000000 in
theorem tilt_any (az alt by_ : Int) (w : World) (hl : I64 alt) (hb : I64 by_) (hT : Tab w) :
    Calls Tryz.prog 65 #[.int .i64 az, .int .i64 alt, .int .i64 by_] w fun e w' => e = .returned (.tuple #[.int .i64 (sel true (dirB az alt) (tiltA az alt by_)), .int .i64 (sel true (dirB az alt) (tiltB az alt by_)), .int .i64 (code2 true (dirB az alt))]) ∧ Below w.heap.size w w' := by
  have HT := Lib.hid hT
  clear hT
  have HB := Below.refl w.heap.size w
  rcases b_cases (dirB az alt) with dd | dd
  · have E := Lib.hid (And.intro (sel_out (b := true) dd (tiltA az alt by_)) (And.intro (sel_out (b := true) dd (tiltB az alt by_)) (code2_out (b := true) rfl dd)))
    go_enter Tryz.func65, Tryz.ntmps65
    go_wp2_with fail
    refine (validDirection_eq _ _ _).mono ?_
    rintro e w1 ⟨rfl, rfl⟩
    go_wp2_with fail
    (try simp only [Exit.inBlock, Exit.then])
    refine bodyPost_ret (results_t3 rfl _ _ _) rfl ?_
    exact ⟨ret_tup3 E.out.1.symm E.out.2.1.symm E.out.2.2.symm, HB⟩
  · have E := Lib.hid (And.intro (sel_in (b := true) rfl dd (tiltA az alt by_)) (And.intro (sel_in (b := true) rfl dd (tiltB az alt by_)) (code2_in (b := true) rfl dd)))
    have U := dirB_iff.1 dd
    go_enter Tryz.func65, Tryz.ntmps65
    go_wp2_with fail
    refine (validDirection_eq _ _ _).mono ?_
    rintro e w1 ⟨rfl, rfl⟩
    go_wp2_with fail
    refine (domeVector_any _ _ _ U.1 hl (HT.out.below HB)).mono ?_
    rintro e w2 ⟨rfl, hb2⟩
    replace HB := HB.trans (hb2.mono HB.size)
    go_wp2_with fail
    refine (rotateAround_any (dirV (nrm (90000 - az)) alt) by_ (dirV_bd _ _) hb _ (HT.out.below HB)).mono ?_
    rintro e w3 ⟨rfl, hb3⟩
    replace HB := HB.trans (hb3.mono HB.size)
    go_wp2_with fail
    generalize hV : World.alloc _ _ = w5
    have hb5 := below_alloc hV
    have v0 := blk_alloc hV
    clear hV
    replace HB := HB.trans (hb5.mono HB.size)
    have d0 := v0.cell 0
    have d1 := v0.cell 1
    have d2 := v0.cell 2
    simp at d0 d1 d2
    have dl := v0.lt
    refine (domeAngles_any (rotV (dirV (nrm (90000 - az)) alt) by_) (rotV_bd _ (dirV_bd _ _)) _ (HT.out.below HB)).mono ?_
    rintro e w6 ⟨rfl, hb6⟩
    replace HB := HB.trans (hb6.mono HB.size)
    go_wp2_with fail
    (try simp only [Exit.inBlock, Exit.then])
    refine bodyPost_ret (results_t3 rfl _ _ _) rfl ?_
    exact ⟨ret_tup3 E.out.1.symm E.out.2.1.symm E.out.2.2.symm, HB⟩
noncomputable def mDirC (x : DomeD) (az alt : Int) : Int := code2 (domeB x) (dirB az alt)
noncomputable def mTiltedA (x : DomeD) (az alt : Int) : Int := sel (domeB x) (dirB az alt) (tiltA az alt x.f2)
noncomputable def mTiltedB (x : DomeD) (az alt : Int) : Int := sel (domeB x) (dirB az alt) (tiltB az alt x.f2)
theorem mTilted_no {x : DomeD} {az alt : Int} (h : domeB x = false) : mTiltedA x az alt = 0 ∧ mTiltedB x az alt = 0 ∧ mDirC x az alt = 1 := ⟨sel_no h _, sel_no h _, code2_no h⟩
theorem mTilted_out {x : DomeD} {az alt : Int} (h : domeB x = true) (h' : dirB az alt = false) : mTiltedA x az alt = 0 ∧ mTiltedB x az alt = 0 ∧ mDirC x az alt = 2 := ⟨sel_out h' _, sel_out h' _, code2_out h h'⟩
theorem mTilted_in {x : DomeD} {az alt : Int} (h : domeB x = true) (h' : dirB az alt = true) : mTiltedA x az alt = tiltA az alt x.f2 ∧ mTiltedB x az alt = tiltB az alt x.f2 ∧ mDirC x az alt = 0 := ⟨sel_in h h' _, sel_in h h' _, code2_in h h'⟩
set_option maxRecDepth 100000 in
set_option maxHeartbeats 2000000 in
theorem implTiltedDirection_any (x0 : ByteArray) (x1 x2 : Int) (az alt : Int) (w : World) (y0 : x0.size ≤ 9223372036854775807) (_y1 : -9223372036854775808 ≤ x1 ∧ x1 ≤ 9223372036854775807) (_y2 : -9223372036854775808 ≤ x2 ∧ x2 ≤ 9223372036854775807) (_ha : -9223372036854775808 ≤ az ∧ az ≤ 9223372036854775807) (hl : -9223372036854775808 ≤ alt ∧ alt ≤ 9223372036854775807) (hT : Tab w) :
    Calls Tryz.prog 25 #[.agg #[.string x0, .int .i64 x1, .int .i64 x2], .int .i64 az, .int .i64 alt] w fun e w' => e = .returned (.tuple #[.int .i64 (mTiltedA ⟨x0, x1, x2⟩ az alt), .int .i64 (mTiltedB ⟨x0, x1, x2⟩ az alt), .int .i64 (mDirC ⟨x0, x1, x2⟩ az alt)]) ∧ Below w.heap.size w w' := by
  obtain ⟨x, hx⟩ : ∃ x : DomeD, x = ⟨x0, x1, x2⟩ := ⟨_, rfl⟩
  have OKP : x.f0.size ≤ 9223372036854775807 := by rw [hx]; exact y0
  rw [← hx]
  have hagg : (Value.agg #[.string x0, .int .i64 x1, .int .i64 x2]) = .agg #[.string x.f0, .int .i64 x.f1, .int .i64 x.f2] := by rw [hx]
  rw [hagg]
  clear hagg hx y0 _y1 _y2
  have HT := Lib.hid hT
  clear hT
  go_enter Tryz.func25, Tryz.ntmps25
  go_wp2_with fail
  generalize hW : World.alloc w _ = w1
  have HB := below_alloc hW
  have b0 := blk_alloc hW
  clear hW
  refine (validDome_any x _ OKP).mono ?_
  rintro e w2 ⟨rfl, hb2⟩
  replace HB := HB.trans (hb2.mono HB.size)
  replace b0 := b0.below hb2 b0.lt
  rcases b_cases (domeB x) with ok | ok
  · have E := Lib.hid (mTilted_no (az := az) (alt := alt) ok)
    go_wp2_with fail
    (try simp only [Exit.inBlock, Exit.then])
    refine bodyPost_ret (results_t3 rfl _ _ _) rfl ?_
    exact ⟨ret_tup3 E.out.1.symm E.out.2.1.symm E.out.2.2.symm, HB⟩
  · have EA : sel true (dirB az alt) (tiltA az alt x.f2) = mTiltedA x az alt := by unfold mTiltedA; rw [ok]
    have EB : sel true (dirB az alt) (tiltB az alt x.f2) = mTiltedB x az alt := by unfold mTiltedB; rw [ok]
    have EC : code2 true (dirB az alt) = mDirC x az alt := by unfold mDirC; rw [ok]
    have E := Lib.hid (And.intro EA (And.intro EB EC))
    clear EA EB EC
    obtain ⟨_, R0, R1⟩ := dome_nums ok
    have q0 := b0.cell 0
    have q1 := b0.cell 1
    have q2 := b0.cell 2
    simp at q0 q1 q2
    have ql := b0.lt
    go_wp2_with fail
    refine (tilt_any az alt x.f2 _ hl ⟨by omega, by omega⟩ (HT.out.below HB)).mono ?_
    rintro e w3 ⟨rfl, hb3⟩
    replace HB := HB.trans (hb3.mono HB.size)
    replace b0 := b0.below hb3 b0.lt
    go_wp2_with fail
    (try simp only [Exit.inBlock, Exit.then])
    refine bodyPost_ret (results_t3 rfl _ _ _) rfl ?_
    exact ⟨ret_tup3 E.out.1 E.out.2.1 E.out.2.2, HB⟩
noncomputable def mLevelA (x : DomeD) (az alt : Int) : Int := sel (domeB x) (dirB az alt) (tiltA az alt (-x.f2))
noncomputable def mLevelB (x : DomeD) (az alt : Int) : Int := sel (domeB x) (dirB az alt) (tiltB az alt (-x.f2))
theorem mLevel_no {x : DomeD} {az alt : Int} (h : domeB x = false) : mLevelA x az alt = 0 ∧ mLevelB x az alt = 0 ∧ mDirC x az alt = 1 := ⟨sel_no h _, sel_no h _, code2_no h⟩
theorem mLevel_out {x : DomeD} {az alt : Int} (h : domeB x = true) (h' : dirB az alt = false) : mLevelA x az alt = 0 ∧ mLevelB x az alt = 0 ∧ mDirC x az alt = 2 := ⟨sel_out h' _, sel_out h' _, code2_out h h'⟩
theorem mLevel_in {x : DomeD} {az alt : Int} (h : domeB x = true) (h' : dirB az alt = true) : mLevelA x az alt = tiltA az alt (-x.f2) ∧ mLevelB x az alt = tiltB az alt (-x.f2) ∧ mDirC x az alt = 0 := ⟨sel_in h h' _, sel_in h h' _, code2_in h h'⟩
set_option maxRecDepth 100000 in
set_option maxHeartbeats 2000000 in
theorem implLevelDirection_any (x0 : ByteArray) (x1 x2 : Int) (az alt : Int) (w : World) (y0 : x0.size ≤ 9223372036854775807) (_y1 : -9223372036854775808 ≤ x1 ∧ x1 ≤ 9223372036854775807) (_y2 : -9223372036854775808 ≤ x2 ∧ x2 ≤ 9223372036854775807) (_ha : -9223372036854775808 ≤ az ∧ az ≤ 9223372036854775807) (hl : -9223372036854775808 ≤ alt ∧ alt ≤ 9223372036854775807) (hT : Tab w) :
    Calls Tryz.prog 26 #[.agg #[.string x0, .int .i64 x1, .int .i64 x2], .int .i64 az, .int .i64 alt] w fun e w' => e = .returned (.tuple #[.int .i64 (mLevelA ⟨x0, x1, x2⟩ az alt), .int .i64 (mLevelB ⟨x0, x1, x2⟩ az alt), .int .i64 (mDirC ⟨x0, x1, x2⟩ az alt)]) ∧ Below w.heap.size w w' := by
  obtain ⟨x, hx⟩ : ∃ x : DomeD, x = ⟨x0, x1, x2⟩ := ⟨_, rfl⟩
  have OKP : x.f0.size ≤ 9223372036854775807 := by rw [hx]; exact y0
  rw [← hx]
  have hagg : (Value.agg #[.string x0, .int .i64 x1, .int .i64 x2]) = .agg #[.string x.f0, .int .i64 x.f1, .int .i64 x.f2] := by rw [hx]
  rw [hagg]
  clear hagg hx y0 _y1 _y2
  have HT := Lib.hid hT
  clear hT
  go_enter Tryz.func26, Tryz.ntmps26
  go_wp2_with fail
  generalize hW : World.alloc w _ = w1
  have HB := below_alloc hW
  have b0 := blk_alloc hW
  clear hW
  refine (validDome_any x _ OKP).mono ?_
  rintro e w2 ⟨rfl, hb2⟩
  replace HB := HB.trans (hb2.mono HB.size)
  replace b0 := b0.below hb2 b0.lt
  rcases b_cases (domeB x) with ok | ok
  · have E := Lib.hid (mLevel_no (az := az) (alt := alt) ok)
    go_wp2_with fail
    (try simp only [Exit.inBlock, Exit.then])
    refine bodyPost_ret (results_t3 rfl _ _ _) rfl ?_
    exact ⟨ret_tup3 E.out.1.symm E.out.2.1.symm E.out.2.2.symm, HB⟩
  · have EA : sel true (dirB az alt) (tiltA az alt (-x.f2)) = mLevelA x az alt := by unfold mLevelA; rw [ok]
    have EB : sel true (dirB az alt) (tiltB az alt (-x.f2)) = mLevelB x az alt := by unfold mLevelB; rw [ok]
    have EC : code2 true (dirB az alt) = mDirC x az alt := by unfold mDirC; rw [ok]
    have E := Lib.hid (And.intro EA (And.intro EB EC))
    clear EA EB EC
    obtain ⟨_, R0, R1⟩ := dome_nums ok
    have q0 := b0.cell 0
    have q1 := b0.cell 1
    have q2 := b0.cell 2
    simp at q0 q1 q2
    have ql := b0.lt
    go_wp2_with fail
    refine (normalAngle_eq _ (by omega) (by omega) _).mono ?_
    rintro e w1 ⟨rfl, rfl⟩
    obtain ⟨k0, k1⟩ := nrm_bd (-x.f2)
    go_wp2_with fail
    refine (tilt_any az alt (nrm (-x.f2)) _ hl ⟨by omega, by omega⟩ (HT.out.below HB)).mono ?_
    rintro e w3 ⟨rfl, hb3⟩
    replace HB := HB.trans (hb3.mono HB.size)
    replace b0 := b0.below hb3 b0.lt
    rw [(tilt_nrm az alt (-x.f2)).1, (tilt_nrm az alt (-x.f2)).2]
    go_wp2_with fail
    (try simp only [Exit.inBlock, Exit.then])
    refine bodyPost_ret (results_t3 rfl _ _ _) rfl ?_
    exact ⟨ret_tup3 E.out.1 E.out.2.1 E.out.2.2, HB⟩
end Go.Proofs.YthjllledhcfnhaaGreatDoor
