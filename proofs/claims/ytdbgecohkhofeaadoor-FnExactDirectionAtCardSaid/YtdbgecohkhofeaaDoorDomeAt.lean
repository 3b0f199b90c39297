/- DirectionAt. Conditions: the arguments are int64; the variable sines holds its table. -/
import Derived.Test.YtdbgecohkhofeaaDoorDomeSpec
namespace Go.Ks
theorem atA_zero {x y : Int} (h1 : -1000000 ≤ x) (h2 : x ≤ 1000000) (h3 : -1000000 ≤ y) (h4 : y ≤ 1000000) (h : spotLen x y = 0) : atA x y = 0 := by
  obtain ⟨rfl, rfl⟩ := spot_zero h1 h2 h3 h4 h
  exact arct_zero
theorem at_div {r : Int} (h0 : 0 ≤ r) (h1 : r ≤ 1500000) : 0 ≤ divr (r * 90000) 1000000 ∧ divr (r * 90000) 1000000 ≤ 135000000000 := by
  have := divr_bd (a := r * 90000) (b := 1000000) (m := 135000000000) (by omega) (by omega) (by omega)
  exact ⟨divr_nonneg (by omega) (by omega), this.2⟩
end Go.Ks
namespace Go.Proofs.YtdbgecohkhofeaaDoor
open Go.RowKit Go.Lib Go.Ks
theorem disc_split (x y : Int) : (inB x (-1000000) 1000000 = false ∧ ¬ DiscOk x y) ∨ (inB x (-1000000) 1000000 = true ∧ inB y (-1000000) 1000000 = false ∧ ¬ DiscOk x y) ∨ (inB x (-1000000) 1000000 = true ∧ inB y (-1000000) 1000000 = true ∧ 1000000 < spotLen x y ∧ ¬ DiscOk x y) ∨ (inB x (-1000000) 1000000 = true ∧ inB y (-1000000) 1000000 = true ∧ spotLen x y ≤ 1000000 ∧ DiscOk x y) := by
  cases h1 : inB x (-1000000) 1000000
  · exact .inl ⟨rfl, fun h => by rw [h.1] at h1; cases h1⟩
  refine .inr ?_
  cases h2 : inB y (-1000000) 1000000
  · exact .inl ⟨rfl, rfl, fun h => by rw [h.2.1] at h2; cases h2⟩
  refine .inr ?_
  by_cases h3 : spotLen x y ≤ 1000000
  · exact .inr ⟨rfl, rfl, h3, h1, h2, h3⟩
  · exact .inl ⟨rfl, rfl, by omega, fun h => h3 h.2.2⟩
set_option maxHeartbeats 2000000 in
theorem l09Disc_any (x y : Int) (w : World) :
    Calls Tryd.prog 50 #[.agg #[.int .i64 x, .int .i64 y]] w fun e w' => e = .returned (.bool (decide (DiscOk x y))) ∧ Below w.heap.size w w' := by
  have hb : Below w.heap.size w (w.alloc (.cells #[.int .i64 x, .int .i64 y] 26)) := (Below.refl _ _).alloc (Nat.le_refl _) _
  rcases disc_split x y with ⟨a, E⟩ | ⟨a, b, E⟩ | ⟨a, b, c, E⟩ | ⟨a, b, c, E⟩
  · have EE := Lib.hid (decide_eq_false E)
    clear E
    go_enter Tryd.func50, Tryd.ntmps50
    go_wp2_with fail
    refine (l00In_eq _ _ _ _).mono ?_
    rintro e w1 ⟨rfl, rfl⟩
    go_wp2_with fail
    go_ret
    exact ⟨ret_bool EE.out.symm, hb⟩
  · have EE := Lib.hid (decide_eq_false E)
    clear E
    go_enter Tryd.func50, Tryd.ntmps50
    go_wp2_with fail
    refine (l00In_eq _ _ _ _).mono ?_
    rintro e w1 ⟨rfl, rfl⟩
    go_wp2_with fail
    refine (l00In_eq _ _ _ _).mono ?_
    rintro e w1 ⟨rfl, rfl⟩
    go_wp2_with fail
    go_ret
    exact ⟨ret_bool EE.out.symm, hb⟩
  · have EE := Lib.hid (decide_eq_false E)
    clear E
    obtain ⟨x1, x2⟩ := inB_iff.1 a
    obtain ⟨y1, y2⟩ := inB_iff.1 b
    obtain ⟨s1, s2⟩ := spot_sq x1 x2
    obtain ⟨s3, s4⟩ := spot_sq y1 y2
    have hl : iroot (x * x + y * y) = spotLen x y := rfl
    have HL := Lib.hid hl
    clear hl
    go_enter Tryd.func50, Tryd.ntmps50
    go_wp2_with fail
    refine (l00In_eq _ _ _ _).mono ?_
    rintro e w1 ⟨rfl, rfl⟩
    go_wp2_with fail
    refine (l00In_eq _ _ _ _).mono ?_
    rintro e w1 ⟨rfl, rfl⟩
    go_wp2_with fail
    refine (l01Root_eq _ (by omega) _).mono ?_
    rintro e w1 ⟨rfl, rfl⟩
    rw [HL.out]
    go_wp2_with fail
    go_ret
    exact ⟨ret_bool (by rw [EE.out]; exact decide_eq_false (by omega)), hb⟩
  · have EE := Lib.hid (decide_eq_true E)
    clear E
    obtain ⟨x1, x2⟩ := inB_iff.1 a
    obtain ⟨y1, y2⟩ := inB_iff.1 b
    obtain ⟨s1, s2⟩ := spot_sq x1 x2
    obtain ⟨s3, s4⟩ := spot_sq y1 y2
    have hl : iroot (x * x + y * y) = spotLen x y := rfl
    have HL := Lib.hid hl
    clear hl
    go_enter Tryd.func50, Tryd.ntmps50
    go_wp2_with fail
    refine (l00In_eq _ _ _ _).mono ?_
    rintro e w1 ⟨rfl, rfl⟩
    go_wp2_with fail
    refine (l00In_eq _ _ _ _).mono ?_
    rintro e w1 ⟨rfl, rfl⟩
    go_wp2_with fail
    refine (l01Root_eq _ (by omega) _).mono ?_
    rintro e w1 ⟨rfl, rfl⟩
    rw [HL.out]
    go_wp2_with fail
    go_ret
    exact ⟨ret_bool EE.out.symm, hb⟩
set_option maxHeartbeats 2000000 in
theorem l09Direction_any (x y : Int) (hx : -1000000 ≤ x ∧ x ≤ 1000000) (hy : -1000000 ≤ y ∧ y ≤ 1000000) (w : World) :
    Calls Tryd.prog 51 #[.agg #[.int .i64 x, .int .i64 y]] w fun e w' => e = .returned (.tuple #[.int .i64 (atA x y), .int .i64 (atB x y)]) ∧ Below w.heap.size w w' := by
  obtain ⟨x1, x2⟩ := hx
  obtain ⟨y1, y2⟩ := hy
  obtain ⟨s1, s2⟩ := spot_sq x1 x2
  obtain ⟨s3, s4⟩ := spot_sq y1 y2
  obtain ⟨l1, l2⟩ := spotLen_bd x1 x2 y1 y2
  have hl : iroot (x * x + y * y) = spotLen x y := rfl
  have HL := Lib.hid hl
  clear hl
  have AZ := Lib.hid (atA_zero x1 x2 y1 y2)
  have hB : atB x y = 90000 - divr (spotLen x y * 90000) 1000000 := rfl
  have HBB := Lib.hid hB
  clear hB
  obtain ⟨R, hR⟩ : ∃ R, spotLen x y = R := ⟨_, rfl⟩
  rw [hR] at HL HBB AZ l1 l2
  clear hR
  obtain ⟨d1, d2⟩ := at_div l1 l2
  go_enter Tryd.func51, Tryd.ntmps51
  go_wp2_with fail
  generalize hW : World.alloc w _ = w1
  have HB : Below w.heap.size w w1 := by rw [← hW]; repeat (first | with_reducible exact Below.refl _ _ | with_reducible assumption | with_reducible refine Below.setCell ?_ (by simp <;> omega) _ | with_reducible refine Below.alloc ?_ (by simp <;> omega) _ | with_reducible refine Below.drew ?_)
  have x0 : Blk w1 w.heap.size 26 #[.int .i64 x, .int .i64 y] := by rw [← hW]; exact Blk.new w _ _
  clear hW
  refine (l01Root_eq _ (by omega) _).mono ?_
  rintro e w2 ⟨rfl, rfl⟩
  rw [HL.out]
  have c0 := x0.cell 0
  have c1 := x0.cell 1
  simp at c0 c1
  have cl := x0.lt
  by_cases hr : 0 < R
  · go_wp2_with fail
    refine (l02Arc_any _ _ (by omega) (by omega) _).mono ?_
    rintro e w3 ⟨rfl, hb3⟩
    replace HB := HB.trans (hb3.mono HB.size)
    go_wp2_with fail
    refine (l01Div_any _ _ (by omega) (by omega) (by omega) (by omega) _).mono ?_
    rintro e w4 ⟨rfl, hb4⟩
    go_wp2_with fail
    go_ret2
    exact ⟨ret_tup rfl HBB.out.symm, HB.trans (hb4.mono HB.size)⟩
  · have hz : R = 0 := by omega
    have EA := Lib.hid (AZ.out hz)
    clear hz
    go_wp2_with fail
    refine (l01Div_any _ _ (by omega) (by omega) (by omega) (by omega) _).mono ?_
    rintro e w4 ⟨rfl, hb4⟩
    go_wp2_with fail
    go_ret2
    exact ⟨ret_tup EA.out.symm HBB.out.symm, HB.trans (hb4.mono HB.size)⟩
set_option maxHeartbeats 2000000 in
theorem specDirectionAt_any (x y : Int) (w : World) (_h1 : -9223372036854775808 ≤ x ∧ x ≤ 9223372036854775807) (_h2 : -9223372036854775808 ≤ y ∧ y ≤ 9223372036854775807) :
    Calls Tryd.prog 22 #[.agg #[.int .i64 x, .int .i64 y]] w fun e w' => e = .returned (.tuple #[.int .i64 (mAtA x y), .int .i64 (mAtB x y), .int .i64 (mAtC x y)]) ∧ Below w.heap.size w w' := by
  go_enter Tryd.func22, Tryd.ntmps22
  go_wp2_with fail
  generalize hW : World.alloc w _ = w1
  have HB : Below w.heap.size w w1 := by rw [← hW]; repeat (first | with_reducible exact Below.refl _ _ | with_reducible assumption | with_reducible refine Below.setCell ?_ (by simp <;> omega) _ | with_reducible refine Below.alloc ?_ (by simp <;> omega) _ | with_reducible refine Below.drew ?_)
  have x0 : Blk w1 w.heap.size 26 #[.int .i64 x, .int .i64 y] := by rw [← hW]; exact Blk.new w _ _
  clear hW
  refine (l09Disc_any x y _).mono ?_
  rintro e w2 ⟨rfl, hb2⟩
  replace HB := HB.trans (hb2.mono HB.size)
  replace x0 := x0.below hb2 x0.lt
  by_cases ok : DiscOk x y
  · have E := Lib.hid (mAt_yes ok)
    have i1 := inB_iff.1 ok.1
    have i2 := inB_iff.1 ok.2.1
    have I := Lib.hid (And.intro i1 i2)
    rw [decide_eq_true ok]
    clear ok i1 i2
    have c0 := x0.cell 0
    have c1 := x0.cell 1
    simp at c0 c1
    have cl := x0.lt
    go_wp2_with fail
    refine (l09Direction_any x y I.out.1 I.out.2 _).mono ?_
    rintro e w3 ⟨rfl, hb3⟩
    go_wp2_with fail
    (try simp only [Exit.inBlock, Exit.then])
    refine bodyPost_ret (results_t3 rfl _ _ _) rfl ?_
    exact ⟨ret_tup3 E.out.1.symm E.out.2.1.symm E.out.2.2.symm, HB.trans (hb3.mono HB.size)⟩
  · have E := Lib.hid (mAt_no ok)
    rw [decide_eq_false ok]
    clear ok
    go_wp2_with fail
    (try simp only [Exit.inBlock, Exit.then])
    refine bodyPost_ret (results_t3 rfl _ _ _) rfl ?_
    exact ⟨ret_tup3 E.out.1.symm E.out.2.1.symm E.out.2.2.symm, HB⟩
set_option maxHeartbeats 4000000 in
theorem implDirectionAt_any (x y : Int) (w : World) (_h1 : -9223372036854775808 ≤ x ∧ x ≤ 9223372036854775807) (_h2 : -9223372036854775808 ≤ y ∧ y ≤ 9223372036854775807) (hT : Tab w) :
    Calls Tryd.prog 24 #[.agg #[.int .i64 x, .int .i64 y]] w fun e w' => e = .returned (.tuple #[.int .i64 (mAtA x y), .int .i64 (mAtB x y), .int .i64 (mAtC x y)]) ∧ Below w.heap.size w w' := by
  have HT := Lib.hid hT
  clear hT
  have hb : Below w.heap.size w (w.alloc (.cells #[.int .i64 x, .int .i64 y] 26)) := (Below.refl _ _).alloc (Nat.le_refl _) _
  rcases disc_split x y with ⟨a, E⟩ | ⟨a, b, E⟩ | ⟨a, b, c, E⟩ | ⟨a, b, c, E⟩
  · have EE := Lib.hid (mAt_no E)
    clear E
    go_enter Tryd.func24, Tryd.ntmps24
    go_wp2_with fail
    refine (within_eq _ _ _ _).mono ?_
    rintro e w1 ⟨rfl, rfl⟩
    go_wp2_with fail
    (try simp only [Exit.inBlock, Exit.then])
    refine bodyPost_ret (results_t3 rfl _ _ _) rfl ?_
    exact ⟨ret_tup3 EE.out.1.symm EE.out.2.1.symm EE.out.2.2.symm, hb⟩
  · have EE := Lib.hid (mAt_no E)
    clear E
    go_enter Tryd.func24, Tryd.ntmps24
    go_wp2_with fail
    refine (within_eq _ _ _ _).mono ?_
    rintro e w1 ⟨rfl, rfl⟩
    go_wp2_with fail
    refine (within_eq _ _ _ _).mono ?_
    rintro e w1 ⟨rfl, rfl⟩
    go_wp2_with fail
    (try simp only [Exit.inBlock, Exit.then])
    refine bodyPost_ret (results_t3 rfl _ _ _) rfl ?_
    exact ⟨ret_tup3 EE.out.1.symm EE.out.2.1.symm EE.out.2.2.symm, hb⟩
  · have EE := Lib.hid (mAt_no E)
    clear E
    obtain ⟨x1, x2⟩ := inB_iff.1 a
    obtain ⟨y1, y2⟩ := inB_iff.1 b
    obtain ⟨s1, s2⟩ := spot_sq x1 x2
    obtain ⟨s3, s4⟩ := spot_sq y1 y2
    have hl : iroot (x * x + y * y) = spotLen x y := rfl
    have HL := Lib.hid hl
    clear hl
    go_enter Tryd.func24, Tryd.ntmps24
    go_wp2_with fail
    refine (within_eq _ _ _ _).mono ?_
    rintro e w1 ⟨rfl, rfl⟩
    go_wp2_with fail
    refine (within_eq _ _ _ _).mono ?_
    rintro e w1 ⟨rfl, rfl⟩
    go_wp2_with fail
    refine (rootOf_eq _ (by omega) _).mono ?_
    rintro e w1 ⟨rfl, rfl⟩
    rw [HL.out]
    go_wp2_with fail
    (try simp only [Exit.inBlock, Exit.then])
    refine bodyPost_ret (results_t3 rfl _ _ _) rfl ?_
    exact ⟨ret_tup3 EE.out.1.symm EE.out.2.1.symm EE.out.2.2.symm, hb⟩
  · have EE := Lib.hid (mAt_yes E)
    clear E
    obtain ⟨x1, x2⟩ := inB_iff.1 a
    obtain ⟨y1, y2⟩ := inB_iff.1 b
    obtain ⟨s1, s2⟩ := spot_sq x1 x2
    obtain ⟨s3, s4⟩ := spot_sq y1 y2
    obtain ⟨l1, l2⟩ := spotLen_bd x1 x2 y1 y2
    have hl : iroot (x * x + y * y) = spotLen x y := rfl
    have HL := Lib.hid hl
    clear hl
    have AZ := Lib.hid (atA_zero x1 x2 y1 y2)
    have hB : atB x y = 90000 - divr (spotLen x y * 90000) 1000000 := rfl
    have HBB := Lib.hid hB
    clear hB
    obtain ⟨R, hR⟩ : ∃ R, spotLen x y = R := ⟨_, rfl⟩
    rw [hR] at HL HBB AZ l1 l2 c
    clear hR
    obtain ⟨d1, d2⟩ := at_div l1 l2
    by_cases hr : 0 < R
    · go_enter Tryd.func24, Tryd.ntmps24
      go_wp2_with fail
      refine (within_eq _ _ _ _).mono ?_
      rintro e w1 ⟨rfl, rfl⟩
      go_wp2_with fail
      refine (within_eq _ _ _ _).mono ?_
      rintro e w1 ⟨rfl, rfl⟩
      go_wp2_with fail
      refine (rootOf_eq _ (by omega) _).mono ?_
      rintro e w1 ⟨rfl, rfl⟩
      rw [HL.out]
      go_wp2_with fail
      refine (arcTangent_any _ _ (by omega) (by omega) _ (HT.out.below hb)).mono ?_
      rintro e w3 ⟨rfl, hb3⟩
      have HB := hb.trans (hb3.mono hb.size)
      go_wp2_with fail
      refine (nearest_any _ _ (by omega) (by omega) (by omega) (by omega) _).mono ?_
      rintro e w4 ⟨rfl, hb4⟩
      go_wp2_with fail
      (try simp only [Exit.inBlock, Exit.then])
      refine bodyPost_ret (results_t3 rfl _ _ _) rfl ?_
      exact ⟨ret_tup3 EE.out.1.symm (by rw [EE.out.2.1, HBB.out]) EE.out.2.2.symm, HB.trans (hb4.mono HB.size)⟩
    · have hz : R = 0 := by omega
      have EA := Lib.hid (AZ.out hz)
      clear hz
      go_enter Tryd.func24, Tryd.ntmps24
      go_wp2_with fail
      refine (within_eq _ _ _ _).mono ?_
      rintro e w1 ⟨rfl, rfl⟩
      go_wp2_with fail
      refine (within_eq _ _ _ _).mono ?_
      rintro e w1 ⟨rfl, rfl⟩
      go_wp2_with fail
      refine (rootOf_eq _ (by omega) _).mono ?_
      rintro e w1 ⟨rfl, rfl⟩
      rw [HL.out]
      go_wp2_with fail
      refine (nearest_any _ _ (by omega) (by omega) (by omega) (by omega) _).mono ?_
      rintro e w4 ⟨rfl, hb4⟩
      go_wp2_with fail
      (try simp only [Exit.inBlock, Exit.then])
      refine bodyPost_ret (results_t3 rfl _ _ _) rfl ?_
      exact ⟨ret_tup3 (by rw [EE.out.1, EA.out]) (by rw [EE.out.2.1, HBB.out]) EE.out.2.2.symm, hb.trans (hb4.mono hb.size)⟩
end Go.Proofs.YtdbgecohkhofeaaDoor
