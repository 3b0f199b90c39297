/- Vectors of the reference: what its functions answer. Conditions: the components are in range. -/
import Derived.Test.YthjllledhcfnhaaDoorArcSpec
import Derived.Test.YthjllledhcfnhaaDoorVecMath
import Derived.Test.YthjllledhcfnhaaDoorRoot
import Derived.Test.YthjllledhcfnhaaDoorTail
import Derived.Laws.StructEq
import Derived.Deep.DeepCutAuto
namespace Go.Proofs.YthjllledhcfnhaaDoor
open Go.RowKit Go.Lib Go.Ks
/-- an int64 -/
def I64 (a : Int) : Prop := -9223372036854775808 ≤ a ∧ a ≤ 9223372036854775807

set_option maxRecDepth 100000 in
set_option maxHeartbeats 4000000 in
theorem l04Direction_any (lon lat : Int) (h1 : I64 lon) (h2 : I64 lat) (w : World) :
    Calls Tryd.prog 60 #[.int .i64 lon, .int .i64 lat] w fun e w' => e = .returned (.agg #[.int .i64 (dirV lon lat).f0, .int .i64 (dirV lon lat).f1, .int .i64 (dirV lon lat).f2]) ∧ Below w.heap.size w w' := by
  obtain ⟨a1, a2⟩ := cosi_bd lat
  obtain ⟨b1, b2⟩ := cosi_bd lon
  obtain ⟨c1, c2⟩ := sine_bd lon
  obtain ⟨m1, m2⟩ := unit_mul a1 a2 b1 b2
  obtain ⟨m3, m4⟩ := unit_mul a1 a2 c1 c2
  obtain ⟨i1, i2⟩ := h1
  obtain ⟨j1, j2⟩ := h2
  go_enter Tryd.func60, Tryd.ntmps60
  go_wp2_with fail
  generalize hW : World.alloc w _ = w1
  have HB : Below w.heap.size w w1 := by rw [← hW]; repeat (first | with_reducible exact Below.refl _ _ | with_reducible assumption | with_reducible refine Below.setCell ?_ (by simp <;> omega) _ | with_reducible refine Below.alloc ?_ (by simp <;> omega) _ | with_reducible refine Below.drew ?_)
  have x0 : Blk w1 w.heap.size 58 #[.int .i64 0, .int .i64 0, .int .i64 0] := by rw [← hW]; exact Blk.new w _ _
  clear hW
  go_wp2_with fail
  refine (l02Cosine_any _ j1 j2 _).mono ?_
  rintro e w2 ⟨rfl, hb2⟩
  replace HB := HB.trans (hb2.mono HB.size)
  replace x0 := x0.below hb2 x0.lt
  go_wp2_with fail
  refine (l02Cosine_any _ i1 i2 _).mono ?_
  rintro e w3 ⟨rfl, hb3⟩
  replace HB := HB.trans (hb3.mono HB.size)
  replace x0 := x0.below hb3 x0.lt
  go_wp2_with fail
  refine (l01Div_any _ _ (by omega) (by omega) (by omega) (by omega) _).mono ?_
  rintro e w4 ⟨rfl, hb4⟩
  replace HB := HB.trans (hb4.mono HB.size)
  replace x0 := x0.below hb4 x0.lt
  go_wp2_with fail
  refine (l02Sine_any _ i1 i2 _).mono ?_
  rintro e w5 ⟨rfl, hb5⟩
  replace HB := HB.trans (hb5.mono HB.size)
  replace x0 := x0.below hb5 x0.lt
  go_wp2_with fail
  refine (l01Div_any _ _ (by omega) (by omega) (by omega) (by omega) _).mono ?_
  rintro e w6 ⟨rfl, hb6⟩
  replace HB := HB.trans (hb6.mono HB.size)
  replace x0 := x0.below hb6 x0.lt
  go_wp2_with fail
  refine (l02Sine_any _ j1 j2 _).mono ?_
  rintro e w7 ⟨rfl, hb7⟩
  replace HB := HB.trans (hb7.mono HB.size)
  replace x0 := x0.below hb7 x0.lt
  have e0 := x0.cell 0
  have e1 := x0.cell 1
  have e2 := x0.cell 2
  simp at e0 e1 e2
  have el := x0.lt
  have eg0 := x0.frozen 0
  have eg1 := x0.frozen 1
  have eg2 := x0.frozen 2
  go_wp2_with fail
  refine bodyPost_ret (v := .agg #[.int .i64 (divr (cosi lat * cosi lon) 1000000), .int .i64 (divr (cosi lat * sine lon) 1000000), .int .i64 (sine lat)]) (by simp [results, Tryd.results60, go_sem, e0, e1, e2]) rfl ⟨rfl, ?_⟩
  repeat (first | with_reducible exact Below.refl _ _ | with_reducible assumption | with_reducible refine Below.setCell ?_ (by simp <;> omega) _ | with_reducible refine Below.alloc ?_ (by simp <;> omega) _ | with_reducible refine Below.drew ?_)
set_option maxHeartbeats 1000000 in
theorem l04Length_any (v : VectorD) (h : Vb 8000000 v) (w : World) :
    Calls Tryd.prog 145 #[.agg #[.int .i64 v.f0, .int .i64 v.f1, .int .i64 v.f2]] w fun e w' => e = .returned (.int .i64 (lenV v)) ∧ Below w.heap.size w w' := by
  obtain ⟨⟨a1, a2⟩, ⟨b1, b2⟩, c1, c2⟩ := sum_sq_bd h
  have hb : Below w.heap.size w (w.alloc (.cells #[.int .i64 v.f0, .int .i64 v.f1, .int .i64 v.f2] 58)) := (Below.refl _ _).alloc (Nat.le_refl _) _
  go_enter Tryd.func145, Tryd.ntmps145
  go_wp2_with fail
  refine (l01Root_eq _ (by omega) _).mono ?_
  rintro e w1 ⟨rfl, rfl⟩
  go_wp2_with fail
  go_ret
  exact ⟨rfl, hb⟩
theorem dot_parts {a b : VectorD} (ha : Vb 2000000 a) (hb : Vb 2000000 b) : (-4000000000000 ≤ a.f0 * b.f0 ∧ a.f0 * b.f0 ≤ 4000000000000) ∧ (-4000000000000 ≤ a.f1 * b.f1 ∧ a.f1 * b.f1 ≤ 4000000000000) ∧ (-4000000000000 ≤ a.f2 * b.f2 ∧ a.f2 * b.f2 ≤ 4000000000000) := ⟨two_mul_bd ha.1 hb.1, two_mul_bd ha.2.1 hb.2.1, two_mul_bd ha.2.2 hb.2.2⟩
set_option maxHeartbeats 1000000 in
theorem l04Dot_any (a b : VectorD) (ha : Vb 2000000 a) (hb : Vb 2000000 b) (w : World) :
    Calls Tryd.prog 147 #[.agg #[.int .i64 a.f0, .int .i64 a.f1, .int .i64 a.f2], .agg #[.int .i64 b.f0, .int .i64 b.f1, .int .i64 b.f2]] w fun e w' => e = .returned (.int .i64 (dotV a b)) ∧ Below w.heap.size w w' := by
  obtain ⟨⟨a1, a2⟩, ⟨b1, b2⟩, c1, c2⟩ := dot_parts ha hb
  have hb : Below w.heap.size w ((w.alloc (.cells #[.int .i64 a.f0, .int .i64 a.f1, .int .i64 a.f2] 58)).alloc (.cells #[.int .i64 b.f0, .int .i64 b.f1, .int .i64 b.f2] 58)) := by
    repeat (first | with_reducible exact Below.refl _ _ | with_reducible assumption | with_reducible refine Below.setCell ?_ (by simp <;> omega) _ | with_reducible refine Below.alloc ?_ (by simp <;> omega) _ | with_reducible refine Below.drew ?_)
  go_enter Tryd.func147, Tryd.ntmps147
  go_wp2_with fail
  refine (l01Div_any _ _ (by omega) (by omega) (by omega) (by omega) _).mono ?_
  rintro e w1 ⟨rfl, hb1⟩
  go_wp2_with fail
  go_ret
  exact ⟨rfl, hb.trans (hb1.mono hb.size)⟩
theorem cross_parts {a b : VectorD} (ha : Vb 2000000 a) (hb : Vb 2000000 b) :
    ((-4000000000000 ≤ a.f1 * b.f2 ∧ a.f1 * b.f2 ≤ 4000000000000) ∧ (-4000000000000 ≤ a.f2 * b.f1 ∧ a.f2 * b.f1 ≤ 4000000000000)) ∧ ((-4000000000000 ≤ a.f2 * b.f0 ∧ a.f2 * b.f0 ≤ 4000000000000) ∧ (-4000000000000 ≤ a.f0 * b.f2 ∧ a.f0 * b.f2 ≤ 4000000000000)) ∧ ((-4000000000000 ≤ a.f0 * b.f1 ∧ a.f0 * b.f1 ≤ 4000000000000) ∧ (-4000000000000 ≤ a.f1 * b.f0 ∧ a.f1 * b.f0 ≤ 4000000000000)) :=
  ⟨⟨two_mul_bd ha.2.1 hb.2.2, two_mul_bd ha.2.2 hb.2.1⟩, ⟨two_mul_bd ha.2.2 hb.1, two_mul_bd ha.1 hb.2.2⟩, two_mul_bd ha.1 hb.2.1, two_mul_bd ha.2.1 hb.1⟩
set_option maxRecDepth 100000 in
set_option maxHeartbeats 4000000 in
theorem l04Cross_any (a b : VectorD) (ha : Vb 2000000 a) (hb : Vb 2000000 b) (w : World) :
    Calls Tryd.prog 146 #[.agg #[.int .i64 a.f0, .int .i64 a.f1, .int .i64 a.f2], .agg #[.int .i64 b.f0, .int .i64 b.f1, .int .i64 b.f2]] w fun e w' => e = .returned (.agg #[.int .i64 (crossV a b).f0, .int .i64 (crossV a b).f1, .int .i64 (crossV a b).f2]) ∧ Below w.heap.size w w' := by
  obtain ⟨⟨⟨a1, a2⟩, a3, a4⟩, ⟨⟨b1, b2⟩, b3, b4⟩, ⟨c1, c2⟩, c3, c4⟩ := cross_parts ha hb
  go_enter Tryd.func146, Tryd.ntmps146
  go_wp2_with fail
  generalize hW : World.alloc (World.alloc (World.alloc w _) _) _ = w1
  have HB : Below w.heap.size w w1 := by rw [← hW]; repeat (first | with_reducible exact Below.refl _ _ | with_reducible assumption | with_reducible refine Below.setCell ?_ (by simp <;> omega) _ | with_reducible refine Below.alloc ?_ (by simp <;> omega) _ | with_reducible refine Below.drew ?_)
  have x0 : Blk w1 w.heap.size 58 #[.int .i64 a.f0, .int .i64 a.f1, .int .i64 a.f2] := by rw [← hW]; exact ((Blk.new w _ _).alloc _).alloc _
  have x1 : Blk w1 (w.heap.size + 1) 58 #[.int .i64 b.f0, .int .i64 b.f1, .int .i64 b.f2] := by
    have h := (Blk.new (w.alloc (.cells #[.int .i64 a.f0, .int .i64 a.f1, .int .i64 a.f2] 58)) 58 #[.int .i64 b.f0, .int .i64 b.f1, .int .i64 b.f2]).alloc (.cells #[.int .i64 0, .int .i64 0, .int .i64 0] 58)
    rw [hW] at h
    simpa using h
  have x2 : Blk w1 (w.heap.size + 2) 58 #[.int .i64 0, .int .i64 0, .int .i64 0] := by
    have h := Blk.new ((w.alloc (.cells #[.int .i64 a.f0, .int .i64 a.f1, .int .i64 a.f2] 58)).alloc (.cells #[.int .i64 b.f0, .int .i64 b.f1, .int .i64 b.f2] 58)) 58 #[.int .i64 0, .int .i64 0, .int .i64 0]
    rw [hW] at h
    simpa using h
  clear hW
  have d0 := x0.cell 0
  have d1 := x0.cell 1
  have d2 := x0.cell 2
  simp at d0 d1 d2
  have dl := x0.lt
  have f0 := x1.cell 0
  have f1 := x1.cell 1
  have f2 := x1.cell 2
  simp at f0 f1 f2
  have fl := x1.lt
  refine wp_region_ext_tail 0 36 (by kernel_rfl) (by kernel_rfl) (fun d _ _ _ _ h => by cases d <;> exact h) ?_
  simp only [List.take_succ_cons, List.take_zero, List.drop_succ_cons, List.drop_zero]
  repeat (go_big_quiet_step ((go_at_call 115; exact quiet_ext (l01Div_any _ _ (by omega) (by omega) (by omega) (by omega) _))))
  refine wpQuiet_nil ?_
  intro e1
  have hb2 := e1.below
  replace HB := HB.trans (hb2.mono HB.size)
  replace x2 := x2.below hb2 x2.lt
  have e0 := x2.cell 0
  have e1 := x2.cell 1
  have e2 := x2.cell 2
  simp at e0 e1 e2
  have el := x2.lt
  have eg0 := x2.frozen 0
  have eg1 := x2.frozen 1
  have eg2 := x2.frozen 2
  go_wp2_with fail
  refine bodyPost_ret (v := .agg #[.int .i64 (crossV a b).f0, .int .i64 (crossV a b).f1, .int .i64 (crossV a b).f2]) (by simp [results, Tryd.results146, go_sem, e0, e1, e2]; exact ⟨rfl, rfl, rfl⟩) rfl ⟨rfl, ?_⟩
  repeat (first | with_reducible exact Below.refl _ _ | with_reducible assumption | with_reducible refine Below.setCell ?_ (by simp <;> omega) _ | with_reducible refine Below.alloc ?_ (by simp <;> omega) _ | with_reducible refine Below.drew ?_)
theorem Tryd.vecStood : Tryd.prog.stoodInHeld 58 = false := by kernel_rfl
theorem Tryd.vecGuard : Tryd.prog.eqGuardType Tryd.prog.depth 58 = false := by kernel_rfl
def zeroB (v : VectorD) : Bool := decide (isZ v)
set_option maxHeartbeats 1000000 in
/-- a test against the vector 0 -/
theorem vecEq (v : VectorD) (w : World) : (Op.equalIn 10000 58 (.agg #[.int .i64 v.f0, .int .i64 v.f1, .int .i64 v.f2]) (.agg #[.int .i64 0, .int .i64 0, .int .i64 0])).run Tryd.prog w = .ok (zeroB v) w := by
  have hst := Tryd.vecStood
  by_cases h0 : v.f0 = 0 <;> by_cases h1 : v.f1 = 0 <;> by_cases h2 : v.f2 = 0 <;> simp [go_sem, hst, h0, h1, h2, zeroB, isZ]
/-- whether there is an angle -/
def okV (a b : VectorD) : Bool := !(zeroB a || zeroB b || (decide (lenV (crossV a b) = 0) && decide (dotV a b = 0)))
theorem ret_away {x x' : Int} {b b' : Bool} (h : x = x') (h' : b = b') : Ending.returned (.tuple #[.int .i64 x, .bool b]) = .returned (.tuple #[.int .i64 x', .bool b']) := by rw [h, h']
set_option maxRecDepth 100000 in
set_option maxHeartbeats 4000000 in
theorem l04Away_any (a b : VectorD) (ha : Vb 2000000 a) (hb : Vb 2000000 b) (w : World) :
    Calls Tryd.prog 113 #[.agg #[.int .i64 a.f0, .int .i64 a.f1, .int .i64 a.f2], .agg #[.int .i64 b.f0, .int .i64 b.f1, .int .i64 b.f2]] w fun e w' => e = .returned (.tuple #[.int .i64 (sepV a b), .bool (okV a b)]) ∧ Below w.heap.size w w' := by
  have hgu := Tryd.vecGuard
  have hza := fun W => vecEq a W
  have hzb := fun W => vecEq b W
  have hc := crossV_bd ha hb
  obtain ⟨l0, l1⟩ := lenV_bd hc
  obtain ⟨d0, d1⟩ := dotV_bd ha hb
  have SZ := Lib.hid (sepV_z (a := a) (b := b))
  have SN := Lib.hid (sepV_nz (a := a) (b := b))
  go_enter Tryd.func113, Tryd.ntmps113
  go_wp2_with fail
  generalize hW : World.alloc (World.alloc w _) _ = w1
  have HB : Below w.heap.size w w1 := by rw [← hW]; repeat (first | with_reducible exact Below.refl _ _ | with_reducible assumption | with_reducible refine Below.setCell ?_ (by simp <;> omega) _ | with_reducible refine Below.alloc ?_ (by simp <;> omega) _ | with_reducible refine Below.drew ?_)
  have x0 : Blk w1 w.heap.size 58 #[.int .i64 a.f0, .int .i64 a.f1, .int .i64 a.f2] := by rw [← hW]; exact (Blk.new w _ _).alloc _
  have x1 : Blk w1 (w.heap.size + 1) 58 #[.int .i64 b.f0, .int .i64 b.f1, .int .i64 b.f2] := by
    have h := Blk.new (w.alloc (.cells #[.int .i64 a.f0, .int .i64 a.f1, .int .i64 a.f2] 58)) 58 #[.int .i64 b.f0, .int .i64 b.f1, .int .i64 b.f2]
    rw [hW] at h
    simpa using h
  clear hW
  refine (l04Cross_any a b ha hb _).mono ?_
  rintro e w2 ⟨rfl, hb2⟩
  replace HB := HB.trans (hb2.mono HB.size)
  replace x0 := x0.below hb2 x0.lt
  replace x1 := x1.below hb2 x1.lt
  go_wp2_with fail
  refine (l04Length_any (crossV a b) hc _).mono ?_
  rintro e w3 ⟨rfl, hb3⟩
  replace HB := HB.trans (hb3.mono HB.size)
  replace x0 := x0.below hb3 x0.lt
  replace x1 := x1.below hb3 x1.lt
  have d0 := x0.cell 0
  have d1 := x0.cell 1
  have d2 := x0.cell 2
  simp at d0 d1 d2
  have dl := x0.lt
  have f0 := x1.cell 0
  have f1 := x1.cell 1
  have f2 := x1.cell 2
  simp at f0 f1 f2
  have fl := x1.lt
  go_wp2_with fail
  refine (l04Dot_any a b ha hb _).mono ?_
  rintro e w4 ⟨rfl, hb4⟩
  replace HB := HB.trans (hb4.mono HB.size)
  replace x0 := x0.below hb4 x0.lt
  replace x1 := x1.below hb4 x1.lt
  clear d0 d1 d2 f0 f1 f2 dl fl
  have d0 := x0.cell 0
  have d1 := x0.cell 1
  have d2 := x0.cell 2
  simp at d0 d1 d2
  have dl := x0.lt
  have f0 := x1.cell 0
  have f1 := x1.cell 1
  have f2 := x1.cell 2
  simp at f0 f1 f2
  have fl := x1.lt
  cases za : zeroB a
  case true =>
    have E := Lib.hid (SZ.out (.inl (of_decide_eq_true za)))
    have O := Lib.hid (by simp [okV, za] : okV a b = false)
    go_wp2_with fail
    go_ret2
    exact ⟨ret_away E.out.symm O.out.symm, HB⟩
  cases zb : zeroB b
  case true =>
    have E := Lib.hid (SZ.out (.inr (of_decide_eq_true zb)))
    have O := Lib.hid (by simp [okV, zb] : okV a b = false)
    go_wp2_with fail
    go_ret2
    exact ⟨ret_away E.out.symm O.out.symm, HB⟩
  have hE := SN.out (fun h => h.elim (of_decide_eq_false za) (of_decide_eq_false zb))
  by_cases k0 : lenV (crossV a b) = 0
  · by_cases k1 : dotV a b = 0
    · have E := Lib.hid (by rw [hE, k0, k1]; exact arct_zero : sepV a b = 0)
      have O := Lib.hid (by simp [okV, k0, k1] : okV a b = false)
      clear hE
      go_wp2_with fail
      go_ret2
      exact ⟨ret_away E.out.symm O.out.symm, HB⟩
    · have E := Lib.hid (by rw [hE, k0] : sepV a b = arct 0 (dotV a b))
      have O := Lib.hid (by simp [okV, za, zb, k1] : okV a b = true)
      clear hE
      go_wp2_with fail
      refine (l02Arc_any _ _ (by omega) (by omega) _).mono ?_
      rintro e w5 ⟨rfl, hb5⟩
      go_wp2_with fail
      go_ret2
      exact ⟨ret_away E.out.symm O.out.symm, HB.trans (hb5.mono HB.size)⟩
  · have E := Lib.hid hE
    have O := Lib.hid (by simp [okV, za, zb, k0] : okV a b = true)
    clear hE
    go_wp2_with fail
    refine (l02Arc_any _ _ (by omega) (by omega) _).mono ?_
    rintro e w5 ⟨rfl, hb5⟩
    go_wp2_with fail
    go_ret2
    exact ⟨ret_away E.out.symm O.out.symm, HB.trans (hb5.mono HB.size)⟩
end Go.Proofs.YthjllledhcfnhaaDoor
