/- Tilted and level directions. Conditions: the arguments are int64; the sizes of strings; the variable sines holds its table. -/
import Derived.Test.YthjllledhcfnhaaDoorDomeAsk
namespace Go.Proofs.YthjllledhcfnhaaDoor
open Go.RowKit Go.Lib Go.Ks
set_option maxRecDepth 100000 in
set_option maxHeartbeats 4000000 in
theorem domeAngles_any (v : VectorD) (hv : Vb 2000000 v) (w : World) (hT : Tab w) :
    Calls Tryd.prog 93 #[.agg #[.int .i64 v.f0, .int .i64 v.f1, .int .i64 v.f2]] w fun e w' => e = .returned (.tuple #[.int .i64 (nrm (90000 - angA v)), .int .i64 (angB v)]) ∧ Below w.heap.size w w' := by
  obtain ⟨⟨q1, q2⟩, ⟨q3, q4⟩, q5, q6⟩ := sum2_bd hv (by omega) (by omega)
  obtain ⟨x, y, z⟩ := v
  obtain ⟨⟨v1, v2⟩, ⟨v3, v4⟩, v5, v6⟩ := hv
  dsimp only at *
  have HT := Lib.hid hT
  clear hT
  have HA := Lib.hid (by rfl : angA ⟨x, y, z⟩ = arct y x)
  have HB2 := Lib.hid (by rfl : angB ⟨x, y, z⟩ = if 90000 < arct z (iroot (x * x + y * y)) then arct z (iroot (x * x + y * y)) - 360000 else arct z (iroot (x * x + y * y)))
  obtain ⟨l0, l1⟩ := arct_bd z (iroot (x * x + y * y))
  obtain ⟨a0, a1⟩ := arct_bd y x
  by_cases hx : x = 0
  · by_cases hy : y = 0
    · subst hx hy
      have hs : (0 : Int) * 0 + 0 * 0 = 0 := rfl
      rw [hs] at q5 q6 l0 l1 HB2
      replace HA := Lib.hid (HA.out.trans arct_zero)
      by_cases g : 90000 < arct z (iroot 0)
      · have E2 := Lib.hid (by rw [HB2.out]; exact if_pos g : angB ⟨0, 0, z⟩ = arct z (iroot 0) - 360000)
        go_enter Tryd.func93, Tryd.ntmps93
        go_wp2_with fail
        generalize hW : World.alloc w _ = w1
        have HB : Below w.heap.size w w1 := by rw [← hW]; repeat (first | with_reducible exact Below.refl _ _ | with_reducible assumption | with_reducible refine Below.setCell ?_ (by simp <;> omega) _ | with_reducible refine Below.alloc ?_ (by simp <;> omega) _ | with_reducible refine Below.drew ?_)
        have x0 : Blk w1 w.heap.size 58 #[.int .i64 0, .int .i64 0, .int .i64 z] := by rw [← hW]; exact Blk.new w _ _
        clear hW
        have d0 := x0.cell 0
        have d1 := x0.cell 1
        have d2 := x0.cell 2
        simp at d0 d1 d2
        have dl := x0.lt
        have TT := Lib.hid (HT.out.below HB)
        refine wp_region_ext (by kernel_rfl) (by kernel_rfl) ?_
        repeat (go_big_quiet_step ((first | (go_at_call 110; exact quiet_ext ((rootOf_eq _ (by omega) _).mono fun _ _ h => ⟨h.1, h.2 ▸ Below.refl _ _⟩)) | (go_at_call 130; exact quiet_ext (arcTangent_any _ _ (by omega) (by omega) _ (TT.out.below (ExtW.below _)))))))
        refine wpQuiet_nil ?_
        intro e1
        replace HB := HB.trans (e1.below.mono HB.size)
        go_wp2_with fail
        refine (normalAngle_eq _ (by omega) (by omega) _).mono ?_
        rintro e w4 ⟨rfl, rfl⟩
        go_wp2_with fail
        go_ret2
        exact ⟨ret_tup (congrArg nrm (by rw [HA.out]; try rfl)) E2.out.symm, HB⟩
      · have E2 := Lib.hid (by rw [HB2.out]; exact if_neg g : angB ⟨0, 0, z⟩ = arct z (iroot 0))
        go_enter Tryd.func93, Tryd.ntmps93
        go_wp2_with fail
        generalize hW : World.alloc w _ = w1
        have HB : Below w.heap.size w w1 := by rw [← hW]; repeat (first | with_reducible exact Below.refl _ _ | with_reducible assumption | with_reducible refine Below.setCell ?_ (by simp <;> omega) _ | with_reducible refine Below.alloc ?_ (by simp <;> omega) _ | with_reducible refine Below.drew ?_)
        have x0 : Blk w1 w.heap.size 58 #[.int .i64 0, .int .i64 0, .int .i64 z] := by rw [← hW]; exact Blk.new w _ _
        clear hW
        have d0 := x0.cell 0
        have d1 := x0.cell 1
        have d2 := x0.cell 2
        simp at d0 d1 d2
        have dl := x0.lt
        have TT := Lib.hid (HT.out.below HB)
        refine wp_region_ext (by kernel_rfl) (by kernel_rfl) ?_
        repeat (go_big_quiet_step ((first | (go_at_call 110; exact quiet_ext ((rootOf_eq _ (by omega) _).mono fun _ _ h => ⟨h.1, h.2 ▸ Below.refl _ _⟩)) | (go_at_call 130; exact quiet_ext (arcTangent_any _ _ (by omega) (by omega) _ (TT.out.below (ExtW.below _)))))))
        refine wpQuiet_nil ?_
        intro e1
        replace HB := HB.trans (e1.below.mono HB.size)
        go_wp2_with fail
        refine (normalAngle_eq _ (by omega) (by omega) _).mono ?_
        rintro e w4 ⟨rfl, rfl⟩
        go_wp2_with fail
        go_ret2
        exact ⟨ret_tup (congrArg nrm (by rw [HA.out]; try rfl)) E2.out.symm, HB⟩
    · subst hx
      have hs : (0 : Int) * 0 + y * y = y * y := by omega
      rw [hs] at q5 q6 l0 l1 HB2
      have hy1 : (y != 0) = true := by simpa using hy
      have hy2 : (y == 0) = false := by simpa using hy
      by_cases g : 90000 < arct z (iroot (y * y))
      · have E2 := Lib.hid (by rw [HB2.out]; exact if_pos g : angB ⟨0, y, z⟩ = arct z (iroot (y * y)) - 360000)
        go_enter Tryd.func93, Tryd.ntmps93
        go_wp2_with fail
        generalize hW : World.alloc w _ = w1
        have HB : Below w.heap.size w w1 := by rw [← hW]; repeat (first | with_reducible exact Below.refl _ _ | with_reducible assumption | with_reducible refine Below.setCell ?_ (by simp <;> omega) _ | with_reducible refine Below.alloc ?_ (by simp <;> omega) _ | with_reducible refine Below.drew ?_)
        have x0 : Blk w1 w.heap.size 58 #[.int .i64 0, .int .i64 y, .int .i64 z] := by rw [← hW]; exact Blk.new w _ _
        clear hW
        refine (arcTangent_any _ _ (by omega) (by omega) _ (HT.out.below HB)).mono ?_
        rintro e w2 ⟨rfl, hb2⟩
        replace HB := HB.trans (hb2.mono HB.size)
        replace x0 := x0.below hb2 x0.lt
        have d0 := x0.cell 0
        have d1 := x0.cell 1
        have d2 := x0.cell 2
        simp at d0 d1 d2
        have dl := x0.lt
        go_wp2_with fail
        have TT := Lib.hid (HT.out.below HB)
        refine wp_region_ext (by kernel_rfl) (by kernel_rfl) ?_
        repeat (go_big_quiet_step ((first | (go_at_call 110; exact quiet_ext ((rootOf_eq _ (by omega) _).mono fun _ _ h => ⟨h.1, h.2 ▸ Below.refl _ _⟩)) | (go_at_call 130; exact quiet_ext (arcTangent_any _ _ (by omega) (by omega) _ (TT.out.below (ExtW.below _)))))))
        refine wpQuiet_nil ?_
        intro e1
        replace HB := HB.trans (e1.below.mono HB.size)
        go_wp2_with fail
        refine (normalAngle_eq _ (by omega) (by omega) _).mono ?_
        rintro e w4 ⟨rfl, rfl⟩
        go_wp2_with fail
        go_ret2
        exact ⟨ret_tup (congrArg nrm (by rw [HA.out]; try rfl)) E2.out.symm, HB⟩
      · have E2 := Lib.hid (by rw [HB2.out]; exact if_neg g : angB ⟨0, y, z⟩ = arct z (iroot (y * y)))
        go_enter Tryd.func93, Tryd.ntmps93
        go_wp2_with fail
        generalize hW : World.alloc w _ = w1
        have HB : Below w.heap.size w w1 := by rw [← hW]; repeat (first | with_reducible exact Below.refl _ _ | with_reducible assumption | with_reducible refine Below.setCell ?_ (by simp <;> omega) _ | with_reducible refine Below.alloc ?_ (by simp <;> omega) _ | with_reducible refine Below.drew ?_)
        have x0 : Blk w1 w.heap.size 58 #[.int .i64 0, .int .i64 y, .int .i64 z] := by rw [← hW]; exact Blk.new w _ _
        clear hW
        refine (arcTangent_any _ _ (by omega) (by omega) _ (HT.out.below HB)).mono ?_
        rintro e w2 ⟨rfl, hb2⟩
        replace HB := HB.trans (hb2.mono HB.size)
        replace x0 := x0.below hb2 x0.lt
        have d0 := x0.cell 0
        have d1 := x0.cell 1
        have d2 := x0.cell 2
        simp at d0 d1 d2
        have dl := x0.lt
        go_wp2_with fail
        have TT := Lib.hid (HT.out.below HB)
        refine wp_region_ext (by kernel_rfl) (by kernel_rfl) ?_
        repeat (go_big_quiet_step ((first | (go_at_call 110; exact quiet_ext ((rootOf_eq _ (by omega) _).mono fun _ _ h => ⟨h.1, h.2 ▸ Below.refl _ _⟩)) | (go_at_call 130; exact quiet_ext (arcTangent_any _ _ (by omega) (by omega) _ (TT.out.below (ExtW.below _)))))))
        refine wpQuiet_nil ?_
        intro e1
        replace HB := HB.trans (e1.below.mono HB.size)
        go_wp2_with fail
        refine (normalAngle_eq _ (by omega) (by omega) _).mono ?_
        rintro e w4 ⟨rfl, rfl⟩
        go_wp2_with fail
        go_ret2
        exact ⟨ret_tup (congrArg nrm (by rw [HA.out]; try rfl)) E2.out.symm, HB⟩
  · have hx1 : (x != 0) = true := by simpa using hx
    have hx2 : (x == 0) = false := by simpa using hx
    by_cases g : 90000 < arct z (iroot (x * x + y * y))
    · have E2 := Lib.hid (by rw [HB2.out]; exact if_pos g : angB ⟨x, y, z⟩ = arct z (iroot (x * x + y * y)) - 360000)
      go_enter Tryd.func93, Tryd.ntmps93
      go_wp2_with fail
      generalize hW : World.alloc w _ = w1
      have HB : Below w.heap.size w w1 := by rw [← hW]; repeat (first | with_reducible exact Below.refl _ _ | with_reducible assumption | with_reducible refine Below.setCell ?_ (by simp <;> omega) _ | with_reducible refine Below.alloc ?_ (by simp <;> omega) _ | with_reducible refine Below.drew ?_)
      have x0 : Blk w1 w.heap.size 58 #[.int .i64 x, .int .i64 y, .int .i64 z] := by rw [← hW]; exact Blk.new w _ _
      clear hW
      refine (arcTangent_any _ _ (by omega) (by omega) _ (HT.out.below HB)).mono ?_
      rintro e w2 ⟨rfl, hb2⟩
      replace HB := HB.trans (hb2.mono HB.size)
      replace x0 := x0.below hb2 x0.lt
      have d0 := x0.cell 0
      have d1 := x0.cell 1
      have d2 := x0.cell 2
      simp at d0 d1 d2
      have dl := x0.lt
      go_wp2_with fail
      have TT := Lib.hid (HT.out.below HB)
      refine wp_region_ext (by kernel_rfl) (by kernel_rfl) ?_
      repeat (go_big_quiet_step ((first | (go_at_call 110; exact quiet_ext ((rootOf_eq _ (by omega) _).mono fun _ _ h => ⟨h.1, h.2 ▸ Below.refl _ _⟩)) | (go_at_call 130; exact quiet_ext (arcTangent_any _ _ (by omega) (by omega) _ (TT.out.below (ExtW.below _)))))))
      refine wpQuiet_nil ?_
      intro e1
      replace HB := HB.trans (e1.below.mono HB.size)
      go_wp2_with fail
      refine (normalAngle_eq _ (by omega) (by omega) _).mono ?_
      rintro e w4 ⟨rfl, rfl⟩
      go_wp2_with fail
      go_ret2
      exact ⟨ret_tup (congrArg nrm (by rw [HA.out]; try rfl)) E2.out.symm, HB⟩
    · have E2 := Lib.hid (by rw [HB2.out]; exact if_neg g : angB ⟨x, y, z⟩ = arct z (iroot (x * x + y * y)))
      go_enter Tryd.func93, Tryd.ntmps93
      go_wp2_with fail
      generalize hW : World.alloc w _ = w1
      have HB : Below w.heap.size w w1 := by rw [← hW]; repeat (first | with_reducible exact Below.refl _ _ | with_reducible assumption | with_reducible refine Below.setCell ?_ (by simp <;> omega) _ | with_reducible refine Below.alloc ?_ (by simp <;> omega) _ | with_reducible refine Below.drew ?_)
      have x0 : Blk w1 w.heap.size 58 #[.int .i64 x, .int .i64 y, .int .i64 z] := by rw [← hW]; exact Blk.new w _ _
      clear hW
      refine (arcTangent_any _ _ (by omega) (by omega) _ (HT.out.below HB)).mono ?_
      rintro e w2 ⟨rfl, hb2⟩
      replace HB := HB.trans (hb2.mono HB.size)
      replace x0 := x0.below hb2 x0.lt
      have d0 := x0.cell 0
      have d1 := x0.cell 1
      have d2 := x0.cell 2
      simp at d0 d1 d2
      have dl := x0.lt
      go_wp2_with fail
      have TT := Lib.hid (HT.out.below HB)
      refine wp_region_ext (by kernel_rfl) (by kernel_rfl) ?_
      repeat (go_big_quiet_step ((first | (go_at_call 110; exact quiet_ext ((rootOf_eq _ (by omega) _).mono fun _ _ h => ⟨h.1, h.2 ▸ Below.refl _ _⟩)) | (go_at_call 130; exact quiet_ext (arcTangent_any _ _ (by omega) (by omega) _ (TT.out.below (ExtW.below _)))))))
      refine wpQuiet_nil ?_
      intro e1
      replace HB := HB.trans (e1.below.mono HB.size)
      go_wp2_with fail
      refine (normalAngle_eq _ (by omega) (by omega) _).mono ?_
      rintro e w4 ⟨rfl, rfl⟩
      go_wp2_with fail
      go_ret2
      exact ⟨ret_tup (congrArg nrm (by rw [HA.out]; try rfl)) E2.out.symm, HB⟩
theorem tilt_nrm (az alt b : Int) : tiltA az alt (nrm b) = tiltA az alt b ∧ tiltB az alt (nrm b) = tiltB az alt b := by unfold tiltA tiltB; rw [rotV_nrm]; exact ⟨rfl, rfl⟩
theorem validDirection_eq (a h : Int) (w : World) :
    Calls Tryd.prog 126 #[.int .i64 a, .int .i64 h] w fun e w' => e = .returned (.bool (dirB a h)) ∧ w = w' := by
  cases q1 : inB a 0 359999
  · have E := Lib.hid (dirB_no1 (h := h) q1)
    go_enter Tryd.func126, Tryd.ntmps126
    go_wp2_with fail
    refine (within_eq _ _ _ _).mono ?_
    rintro e w1 ⟨rfl, rfl⟩
    go_wp2_with fail
    go_ret
    exact ⟨ret_bool E.out.symm, rfl⟩
  · have E := Lib.hid (dirB_eq (h := h) q1)
    go_enter Tryd.func126, Tryd.ntmps126
    go_wp2_with fail
    refine (within_eq _ _ _ _).mono ?_
    rintro e w1 ⟨rfl, rfl⟩
    go_wp2_with fail
    refine (within_eq _ _ _ _).mono ?_
    rintro e w1 ⟨rfl, rfl⟩
    go_wp2_with fail
    go_ret
    exact ⟨ret_bool E.out.symm, rfl⟩
noncomputable def mDirC (x : DomeD) (az alt : Int) : Int := code2 (domeB x) (dirB az alt)
noncomputable def mTiltedA (x : DomeD) (az alt : Int) : Int := sel (domeB x) (dirB az alt) (tiltA az alt x.f2)
noncomputable def mTiltedB (x : DomeD) (az alt : Int) : Int := sel (domeB x) (dirB az alt) (tiltB az alt x.f2)
theorem mTilted_no {x : DomeD} {az alt : Int} (h : domeB x = false) : mTiltedA x az alt = 0 ∧ mTiltedB x az alt = 0 ∧ mDirC x az alt = 1 := ⟨sel_no h _, sel_no h _, code2_no h⟩
theorem mTilted_out {x : DomeD} {az alt : Int} (h : domeB x = true) (h' : dirB az alt = false) : mTiltedA x az alt = 0 ∧ mTiltedB x az alt = 0 ∧ mDirC x az alt = 2 := ⟨sel_out h' _, sel_out h' _, code2_out h h'⟩
theorem mTilted_in {x : DomeD} {az alt : Int} (h : domeB x = true) (h' : dirB az alt = true) : mTiltedA x az alt = tiltA az alt x.f2 ∧ mTiltedB x az alt = tiltB az alt x.f2 ∧ mDirC x az alt = 0 := ⟨sel_in h h' _, sel_in h h' _, code2_in h h'⟩
noncomputable def mLevelA (x : DomeD) (az alt : Int) : Int := sel (domeB x) (dirB az alt) (tiltA az alt (-x.f2))
noncomputable def mLevelB (x : DomeD) (az alt : Int) : Int := sel (domeB x) (dirB az alt) (tiltB az alt (-x.f2))
theorem mLevel_no {x : DomeD} {az alt : Int} (h : domeB x = false) : mLevelA x az alt = 0 ∧ mLevelB x az alt = 0 ∧ mDirC x az alt = 1 := ⟨sel_no h _, sel_no h _, code2_no h⟩
theorem mLevel_out {x : DomeD} {az alt : Int} (h : domeB x = true) (h' : dirB az alt = false) : mLevelA x az alt = 0 ∧ mLevelB x az alt = 0 ∧ mDirC x az alt = 2 := ⟨sel_out h' _, sel_out h' _, code2_out h h'⟩
theorem mLevel_in {x : DomeD} {az alt : Int} (h : domeB x = true) (h' : dirB az alt = true) : mLevelA x az alt = tiltA az alt (-x.f2) ∧ mLevelB x az alt = tiltB az alt (-x.f2) ∧ mDirC x az alt = 0 := ⟨sel_in h h' _, sel_in h h' _, code2_in h h'⟩
end Go.Proofs.YthjllledhcfnhaaDoor
