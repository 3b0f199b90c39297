/- Vectors of the program: what its functions answer. Conditions: the components are in range, the variable sines holds its table. -/
import Derived.Test.YthjllledhcfnhaaGreatDoorTrigImpl
import Derived.Test.YthjllledhcfnhaaGreatDoorVecSpec
namespace Go.Proofs.YthjllledhcfnhaaGreatDoor
open Go.RowKit Go.Lib Go.Ks

set_option maxRecDepth 100000 in
set_option maxHeartbeats 4000000 in
theorem directionOf_any (lon lat : Int) (h1 : I64 lon) (h2 : I64 lat) (w : World) (hT : Tab w) :
    Calls Tryz.prog 118 #[.int .i64 lon, .int .i64 lat] w fun e w' => e = .returned (.agg #[.int .i64 (dirV lon lat).f0, .int .i64 (dirV lon lat).f1, .int .i64 (dirV lon lat).f2]) ∧ Below w.heap.size w w' := by
  obtain ⟨a1, a2⟩ := cosi_bd lat
  obtain ⟨b1, b2⟩ := cosi_bd lon
  obtain ⟨c1, c2⟩ := sine_bd lon
  obtain ⟨m1, m2⟩ := unit_mul a1 a2 b1 b2
  obtain ⟨m3, m4⟩ := unit_mul a1 a2 c1 c2
  obtain ⟨i1, i2⟩ := h1
  obtain ⟨j1, j2⟩ := h2
  have HT := Lib.hid hT
  clear hT
  go_enter Tryz.func118, Tryz.ntmps118
  go_wp2_with fail
  generalize hW : World.alloc w _ = w1
  have HB : Below w.heap.size w w1 := by rw [← hW]; repeat (first | with_reducible exact Below.refl _ _ | with_reducible assumption | with_reducible refine Below.setCell ?_ (by simp <;> omega) _ | with_reducible refine Below.alloc ?_ (by simp <;> omega) _ | with_reducible refine Below.drew ?_)
  have x0 : Blk w1 w.heap.size 97 #[.int .i64 0, .int .i64 0, .int .i64 0] := by rw [← hW]; exact Blk.new w _ _
  clear hW
  go_wp2_with fail
  refine (cosineOf_any _ j1 j2 _ (HT.out.below HB)).mono ?_
  rintro e w2 ⟨rfl, hb2⟩
  replace HB := HB.trans (hb2.mono HB.size)
  replace x0 := x0.below hb2 x0.lt
  go_wp2_with fail
  refine (cosineOf_any _ i1 i2 _ (HT.out.below HB)).mono ?_
  rintro e w3 ⟨rfl, hb3⟩
  replace HB := HB.trans (hb3.mono HB.size)
  replace x0 := x0.below hb3 x0.lt
  go_wp2_with fail
  refine (nearest_any _ _ (by omega) (by omega) (by omega) (by omega) _).mono ?_
  rintro e w4 ⟨rfl, hb4⟩
  replace HB := HB.trans (hb4.mono HB.size)
  replace x0 := x0.below hb4 x0.lt
  go_wp2_with fail
  refine (sineOf_any _ i1 i2 _ (HT.out.below HB)).mono ?_
  rintro e w5 ⟨rfl, hb5⟩
  replace HB := HB.trans (hb5.mono HB.size)
  replace x0 := x0.below hb5 x0.lt
  go_wp2_with fail
  refine (nearest_any _ _ (by omega) (by omega) (by omega) (by omega) _).mono ?_
  rintro e w6 ⟨rfl, hb6⟩
  replace HB := HB.trans (hb6.mono HB.size)
  replace x0 := x0.below hb6 x0.lt
  go_wp2_with fail
  refine (sineOf_any _ j1 j2 _ (HT.out.below HB)).mono ?_
  rintro e w7 ⟨rfl, hb7⟩
  replace HB := HB.trans (hb7.mono HB.size)
  replace x0 := x0.below hb7 x0.lt
  have e0 := x0.cell 0
  have e1 := x0.cell 1
  have e2 := x0.cell 2
  simp at e0 e1 e2
  have el := x0.lt
  have eg0 := x0.frozen 0
  have eg1 := x0.frozen 1
  have eg2 := x0.frozen 2
  go_wp2_with fail
  refine bodyPost_ret (v := .agg #[.int .i64 (divr (cosi lat * cosi lon) 1000000), .int .i64 (divr (cosi lat * sine lon) 1000000), .int .i64 (sine lat)]) (by simp [results, Tryz.results118, go_sem, e0, e1, e2]) rfl ⟨rfl, ?_⟩
  repeat (first | with_reducible exact Below.refl _ _ | with_reducible assumption | with_reducible refine Below.setCell ?_ (by simp <;> omega) _ | with_reducible refine Below.alloc ?_ (by simp <;> omega) _ | with_reducible refine Below.drew ?_)
set_option maxHeartbeats 1000000 in
theorem lengthOf_any (v : VectorD) (h : Vb 8000000 v) (w : World) :
    Calls Tryz.prog 145 #[.agg #[.int .i64 v.f0, .int .i64 v.f1, .int .i64 v.f2]] w fun e w' => e = .returned (.int .i64 (lenV v)) ∧ Below w.heap.size w w' := by
  obtain ⟨⟨a1, a2⟩, ⟨b1, b2⟩, c1, c2⟩ := sum_sq_bd h
  have hb : Below w.heap.size w (w.alloc (.cells #[.int .i64 v.f0, .int .i64 v.f1, .int .i64 v.f2] 97)) := (Below.refl _ _).alloc (Nat.le_refl _) _
  go_enter Tryz.func145, Tryz.ntmps145
  go_wp2_with fail
  refine (rootOf_eq _ (by omega) _).mono ?_
  rintro e w1 ⟨rfl, rfl⟩
  go_wp2_with fail
  go_ret
  exact ⟨rfl, hb⟩
set_option maxHeartbeats 1000000 in
theorem dotOf_any (a b : VectorD) (ha : Vb 2000000 a) (hb : Vb 2000000 b) (w : World) :
    Calls Tryz.prog 147 #[.agg #[.int .i64 a.f0, .int .i64 a.f1, .int .i64 a.f2], .agg #[.int .i64 b.f0, .int .i64 b.f1, .int .i64 b.f2]] w fun e w' => e = .returned (.int .i64 (dotV a b)) ∧ Below w.heap.size w w' := by
  obtain ⟨⟨a1, a2⟩, ⟨b1, b2⟩, c1, c2⟩ := dot_parts ha hb
  have hb : Below w.heap.size w ((w.alloc (.cells #[.int .i64 a.f0, .int .i64 a.f1, .int .i64 a.f2] 97)).alloc (.cells #[.int .i64 b.f0, .int .i64 b.f1, .int .i64 b.f2] 97)) := by
    repeat (first | with_reducible exact Below.refl _ _ | with_reducible assumption | with_reducible refine Below.setCell ?_ (by simp <;> omega) _ | with_reducible refine Below.alloc ?_ (by simp <;> omega) _ | with_reducible refine Below.drew ?_)
  go_enter Tryz.func147, Tryz.ntmps147
  go_wp2_with fail
  refine (nearest_any _ _ (by omega) (by omega) (by omega) (by omega) _).mono ?_
  rintro e w1 ⟨rfl, hb1⟩
  go_wp2_with fail
  go_ret
  exact ⟨rfl, hb.trans (hb1.mono hb.size)⟩
set_option maxRecDepth 100000 in
set_option maxHeartbeats 4000000 in
theorem crossOf_any (a b : VectorD) (ha : Vb 2000000 a) (hb : Vb 2000000 b) (w : World) :
    Calls Tryz.prog 146 #[.agg #[.int .i64 a.f0, .int .i64 a.f1, .int .i64 a.f2], .agg #[.int .i64 b.f0, .int .i64 b.f1, .int .i64 b.f2]] w fun e w' => e = .returned (.agg #[.int .i64 (crossV a b).f0, .int .i64 (crossV a b).f1, .int .i64 (crossV a b).f2]) ∧ Below w.heap.size w w' := by
  obtain ⟨⟨⟨a1, a2⟩, a3, a4⟩, ⟨⟨b1, b2⟩, b3, b4⟩, ⟨c1, c2⟩, c3, c4⟩ := cross_parts ha hb
  go_enter Tryz.func146, Tryz.ntmps146
  go_wp2_with fail
  generalize hW : World.alloc (World.alloc (World.alloc w _) _) _ = w1
  have HB : Below w.heap.size w w1 := by rw [← hW]; repeat (first | with_reducible exact Below.refl _ _ | with_reducible assumption | with_reducible refine Below.setCell ?_ (by simp <;> omega) _ | with_reducible refine Below.alloc ?_ (by simp <;> omega) _ | with_reducible refine Below.drew ?_)
  have x0 : Blk w1 w.heap.size 97 #[.int .i64 a.f0, .int .i64 a.f1, .int .i64 a.f2] := by rw [← hW]; exact ((Blk.new w _ _).alloc _).alloc _
  have x1 : Blk w1 (w.heap.size + 1) 97 #[.int .i64 b.f0, .int .i64 b.f1, .int .i64 b.f2] := by
    have h := (Blk.new (w.alloc (.cells #[.int .i64 a.f0, .int .i64 a.f1, .int .i64 a.f2] 97)) 97 #[.int .i64 b.f0, .int .i64 b.f1, .int .i64 b.f2]).alloc (.cells #[.int .i64 0, .int .i64 0, .int .i64 0] 97)
    rw [hW] at h
    simpa using h
  have x2 : Blk w1 (w.heap.size + 2) 97 #[.int .i64 0, .int .i64 0, .int .i64 0] := by
    have h := Blk.new ((w.alloc (.cells #[.int .i64 a.f0, .int .i64 a.f1, .int .i64 a.f2] 97)).alloc (.cells #[.int .i64 b.f0, .int .i64 b.f1, .int .i64 b.f2] 97)) 97 #[.int .i64 0, .int .i64 0, .int .i64 0]
    rw [hW] at h
    simpa using h
  clear hW
  have d0 := x0.cell 0
  have d1 := x0.cell 1
  have d2 := x0.cell 2
  simp at d0 d1 d2
  have dl := x0.lt
  have f0 := x1.cell 0
  have f1 := x1.cell 1
  have f2 := x1.cell 2
  simp at f0 f1 f2
  have fl := x1.lt
  refine wp_region_ext_tail 0 36 (by kernel_rfl) (by kernel_rfl) (fun d _ _ _ _ h => by cases d <;> exact h) ?_
  simp only [List.take_succ_cons, List.take_zero, List.drop_succ_cons, List.drop_zero]
  repeat (go_big_quiet_step ((go_at_call 57; exact quiet_ext (nearest_any _ _ (by omega) (by omega) (by omega) (by omega) _))))
  refine wpQuiet_nil ?_
  intro e1
  have hb2 := e1.below
  replace HB := HB.trans (hb2.mono HB.size)
  replace x2 := x2.below hb2 x2.lt
  have e0 := x2.cell 0
  have e1 := x2.cell 1
  have e2 := x2.cell 2
  simp at e0 e1 e2
  have el := x2.lt
  have eg0 := x2.frozen 0
  have eg1 := x2.frozen 1
  have eg2 := x2.frozen 2
  go_wp2_with fail
  refine bodyPost_ret (v := .agg #[.int .i64 (crossV a b).f0, .int .i64 (crossV a b).f1, .int .i64 (crossV a b).f2]) (by simp [results, Tryz.results146, go_sem, e0, e1, e2]; exact ⟨rfl, rfl, rfl⟩) rfl ⟨rfl, ?_⟩
  repeat (first | with_reducible exact Below.refl _ _ | with_reducible assumption | with_reducible refine Below.setCell ?_ (by simp <;> omega) _ | with_reducible refine Below.alloc ?_ (by simp <;> omega) _ | with_reducible refine Below.drew ?_)
theorem validComponent_eq (n : Int) (w : World) :
    Calls Tryz.prog 148 #[.int .i64 n] w fun e w' => e = .returned (.bool (inB n (-2000000) 2000000)) ∧ w = w' := by
  go_enter Tryz.func148, Tryz.ntmps148
  go_wp2_with fail
  refine (within_eq _ _ _ _).mono ?_
  rintro e w1 ⟨rfl, rfl⟩
  go_wp2_with fail
  go_ret
  exact ⟨rfl, rfl⟩
theorem validVector_any (v : VectorD) (h : Vb 2000000 v) (w : World) :
    Calls Tryz.prog 120 #[.agg #[.int .i64 v.f0, .int .i64 v.f1, .int .i64 v.f2]] w fun e w' => e = .returned (.bool true) ∧ Below w.heap.size w w' := by
  have i0 := inB_iff.2 h.1
  have i1 := inB_iff.2 h.2.1
  have i2 := inB_iff.2 h.2.2
  have hb : Below w.heap.size w (w.alloc (.cells #[.int .i64 v.f0, .int .i64 v.f1, .int .i64 v.f2] 97)) := (Below.refl _ _).alloc (Nat.le_refl _) _
  go_enter Tryz.func120, Tryz.ntmps120
  go_wp2_with fail
  refine (validComponent_eq _ _).mono ?_
  rintro e w1 ⟨rfl, rfl⟩
  go_wp2_with fail
  refine (validComponent_eq _ _).mono ?_
  rintro e w1 ⟨rfl, rfl⟩
  go_wp2_with fail
  refine (validComponent_eq _ _).mono ?_
  rintro e w1 ⟨rfl, rfl⟩
  go_wp2_with fail
  go_ret
  exact ⟨rfl, hb⟩
def sepC (a b : VectorD) : Int := if isZ a ∨ isZ b then 6 else arcC (lenV (crossV a b)) (dotV a b)
theorem sepC_z {a b : VectorD} (h : isZ a ∨ isZ b) : sepC a b = 6 := if_pos h
theorem sepC_nz {a b : VectorD} (h : ¬ (isZ a ∨ isZ b)) : sepC a b = arcC (lenV (crossV a b)) (dotV a b) := if_neg h
set_option maxRecDepth 100000 in
set_option maxHeartbeats 4000000 in
theorem separation_any (a b : VectorD) (ha : Vb 2000000 a) (hb : Vb 2000000 b) (w : World) (hT : Tab w) :
    Calls Tryz.prog 117 #[.agg #[.int .i64 a.f0, .int .i64 a.f1, .int .i64 a.f2], .agg #[.int .i64 b.f0, .int .i64 b.f1, .int .i64 b.f2]] w fun e w' => e = .returned (.tuple #[.int .i64 (sepV a b), .int .i64 (sepC a b)]) ∧ Below w.heap.size w w' := by
  have hgu := Tryz.vecGuard
  have hza := fun W => vecEq a W
  have hzb := fun W => vecEq b W
  have hc := crossV_bd ha hb
  obtain ⟨l0, l1⟩ := lenV_bd hc
  obtain ⟨q0, q1⟩ := dotV_bd ha hb
  have HT := Lib.hid hT
  clear hT
  go_enter Tryz.func117, Tryz.ntmps117
  go_wp2_with fail
  generalize hW : World.alloc (World.alloc w _) _ = w1
  have HB : Below w.heap.size w w1 := by rw [← hW]; repeat (first | with_reducible exact Below.refl _ _ | with_reducible assumption | with_reducible refine Below.setCell ?_ (by simp <;> omega) _ | with_reducible refine Below.alloc ?_ (by simp <;> omega) _ | with_reducible refine Below.drew ?_)
  have x0 : Blk w1 w.heap.size 97 #[.int .i64 a.f0, .int .i64 a.f1, .int .i64 a.f2] := by rw [← hW]; exact (Blk.new w _ _).alloc _
  have x1 : Blk w1 (w.heap.size + 1) 97 #[.int .i64 b.f0, .int .i64 b.f1, .int .i64 b.f2] := by
    have h := Blk.new (w.alloc (.cells #[.int .i64 a.f0, .int .i64 a.f1, .int .i64 a.f2] 97)) 97 #[.int .i64 b.f0, .int .i64 b.f1, .int .i64 b.f2]
    rw [hW] at h
    simpa using h
  clear hW
  refine (validVector_any a ha _).mono ?_
  rintro e w2 ⟨rfl, hb2⟩
  replace HB := HB.trans (hb2.mono HB.size)
  replace x0 := x0.below hb2 x0.lt
  replace x1 := x1.below hb2 x1.lt
  have d0 := x0.cell 0
  have d1 := x0.cell 1
  have d2 := x0.cell 2
  simp at d0 d1 d2
  have dl := x0.lt
  have f0 := x1.cell 0
  have f1 := x1.cell 1
  have f2 := x1.cell 2
  simp at f0 f1 f2
  have fl := x1.lt
  go_wp2_with fail
  refine (validVector_any b hb _).mono ?_
  rintro e w3 ⟨rfl, hb3⟩
  replace HB := HB.trans (hb3.mono HB.size)
  replace x0 := x0.below hb3 x0.lt
  replace x1 := x1.below hb3 x1.lt
  clear d0 d1 d2 f0 f1 f2 dl fl
  have d0 := x0.cell 0
  have d1 := x0.cell 1
  have d2 := x0.cell 2
  simp at d0 d1 d2
  have dl := x0.lt
  have f0 := x1.cell 0
  have f1 := x1.cell 1
  have f2 := x1.cell 2
  simp at f0 f1 f2
  have fl := x1.lt
  cases za : zeroB a
  case true =>
    have E := Lib.hid (And.intro (sepV_z (a := a) (b := b) (.inl (of_decide_eq_true za))) (sepC_z (a := a) (b := b) (.inl (of_decide_eq_true za))))
    go_wp2_with fail
    go_ret2
    exact ⟨ret_tup E.out.1.symm E.out.2.symm, HB⟩
  cases zb : zeroB b
  case true =>
    have E := Lib.hid (And.intro (sepV_z (a := a) (b := b) (.inr (of_decide_eq_true zb))) (sepC_z (a := a) (b := b) (.inr (of_decide_eq_true zb))))
    go_wp2_with fail
    go_ret2
    exact ⟨ret_tup E.out.1.symm E.out.2.symm, HB⟩
  have hE : ¬ (isZ a ∨ isZ b) := fun h => h.elim (of_decide_eq_false za) (of_decide_eq_false zb)
  have E := Lib.hid (And.intro (sepV_nz hE) (sepC_nz hE))
  clear hE
  go_upto_region 5 with fail
  clear hza hzb za zb hgu
  have TT := Lib.hid (HT.out.below HB)
  refine wp_region_ext (by kernel_rfl) (by kernel_rfl) ?_
  repeat (go_big_quiet_step ((first | (go_at_call 146; exact quiet_ext (crossOf_any a b ha hb _)) | (go_at_call 145; exact quiet_ext (lengthOf_any (crossV a b) hc _)) | (go_at_call 147; exact quiet_ext (dotOf_any a b ha hb _)) | (go_at_call 62; exact quiet_ext (arcTangent_any _ _ (by omega) (by omega) _ (TT.out.below (ExtW.below _)))))))
  refine wpQuiet_nil ?_
  intro e1
  have hb5 := e1.below
  go_wp2_with fail
  go_ret2
  exact ⟨ret_tup E.out.1.symm E.out.2.symm, HB.trans (hb5.mono HB.size)⟩
end Go.Proofs.YthjllledhcfnhaaGreatDoor
