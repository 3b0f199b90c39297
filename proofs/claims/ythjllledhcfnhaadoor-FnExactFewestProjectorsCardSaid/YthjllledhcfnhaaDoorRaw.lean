/- The weight of a projector at a direction. Conditions: the strings' sizes; the variable sines holds its table. -/
import Derived.Test.YthjllledhcfnhaaDoorProj
import Derived.Test.YthjllledhcfnhaaDoorVecImpl
namespace Go.Ks
/-- the weight of a projector at a direction -/
def rawP (x : ProjectorD) (az alt : Int) : Int := if x.f3 < sepV (dirV x.f1 x.f2) (dirV az alt) then 0 else 1000 * (x.f3 - sepV (dirV x.f1 x.f2) (dirV az alt)) / x.f3 + 1
theorem rawP_far {x : ProjectorD} {az alt : Int} (h : x.f3 < sepV (dirV x.f1 x.f2) (dirV az alt)) : rawP x az alt = 0 := if_pos h
theorem rawP_near {x : ProjectorD} {az alt : Int} (h : ¬ x.f3 < sepV (dirV x.f1 x.f2) (dirV az alt)) : rawP x az alt = 1000 * (x.f3 - sepV (dirV x.f1 x.f2) (dirV az alt)) / x.f3 + 1 := if_neg h
theorem raw_quot {f d : Int} (hf : 5000 ≤ f) (h0 : 0 ≤ d) (h1 : d ≤ f) : 0 ≤ 1000 * (f - d) / f ∧ 1000 * (f - d) / f ≤ 1000 := by
  refine ⟨Int.ediv_nonneg (by omega) (by omega), ?_⟩
  have : 1000 * (f - d) ≤ 1000 * f := by omega
  exact Int.ediv_le_of_le_mul (by omega) this
theorem rawP_bd {x : ProjectorD} {az alt : Int} (hf : 5000 ≤ x.f3) : 0 ≤ rawP x az alt ∧ rawP x az alt ≤ 1001 := by
  obtain ⟨s0, _⟩ := sepV_bd (dirV x.f1 x.f2) (dirV az alt)
  by_cases h : x.f3 < sepV (dirV x.f1 x.f2) (dirV az alt)
  · rw [rawP_far h]; omega
  · rw [rawP_near h]
    have := raw_quot hf s0 (by omega)
    omega
end Go.Ks
namespace Go.Proofs.YthjllledhcfnhaaDoor
open Go.RowKit Go.Lib Go.Ks
set_option maxRecDepth 100000 in
set_option maxHeartbeats 4000000 in
theorem l10Raw_any (b o : Nat) (x : ProjectorD) (az alt : Int) (w : World) (hx : ProjectorAt w b o x) (hp : projB x = true) :
    Calls Tryd.prog 59 #[.pointer (some ⟨b, o, none⟩), .agg #[.int .i64 (dirV az alt).f0, .int .i64 (dirV az alt).f1, .int .i64 (dirV az alt).f2]] w fun e w' => e = .returned (.int .i64 (rawP x az alt)) ∧ Below w.heap.size w w' := by
  obtain ⟨⟨p1, p1'⟩, ⟨p2, p2'⟩, ⟨p3, p3'⟩, p4, p4'⟩ := proj_dir hp
  have v1 := (dirV_bd x.f1 x.f2).mono (n := 2000000) (by omega)
  have v2 := (dirV_bd az alt).mono (n := 2000000) (by omega)
  obtain ⟨s0, s1⟩ := sepV_bd (dirV x.f1 x.f2) (dirV az alt)
  have RF := Lib.hid (rawP_far (x := x) (az := az) (alt := alt))
  have RN := Lib.hid (rawP_near (x := x) (az := az) (alt := alt))
  have i1 : I64 x.f1 := ⟨by omega, by omega⟩
  have i2 : I64 x.f2 := ⟨by omega, by omega⟩
  go_enter Tryd.func59, Tryd.ntmps59
  go_wp2_with fail
  generalize hW : World.alloc w _ = w1
  have HB : Below w.heap.size w w1 := by rw [← hW]; repeat (first | with_reducible exact Below.refl _ _ | with_reducible assumption | with_reducible refine Below.setCell ?_ (by simp <;> omega) _ | with_reducible refine Below.alloc ?_ (by simp <;> omega) _ | with_reducible refine Below.drew ?_)
  have x0 : Blk w1 w.heap.size 58 #[.int .i64 (dirV az alt).f0, .int .i64 (dirV az alt).f1, .int .i64 (dirV az alt).f2] := by rw [← hW]; exact Blk.new w _ _
  clear hW
  have hx1 := hx.below HB
  have HX := Lib.hid hx1
  obtain ⟨hlt, c0, c1, c2, c3, c4⟩ := hx1
  have d0 := x0.cell 0
  have d1 := x0.cell 1
  have d2 := x0.cell 2
  simp at d0 d1 d2
  have dl := x0.lt
  have I1 := Lib.hid i1
  have I2 := Lib.hid i2
  clear i1 i2 c0
  by_cases far : x.f3 < sepV (dirV x.f1 x.f2) (dirV az alt)
  · have E := Lib.hid (RF.out (by omega))
    go_wp2_with fail
    refine wp_region_ext (by kernel_rfl) (by kernel_rfl) ?_
    repeat (go_big_quiet_step ((first | (go_at_call 60; exact quiet_ext (l04Direction_any _ _ I1.out I2.out _)) | (go_at_call 113; exact quiet_ext (l04Away_any (dirV x.f1 x.f2) (dirV az alt) v1 v2 _)))))
    refine wpQuiet_nil ?_
    intro e1
    have hb2 := HB.trans (e1.below.mono HB.size)
    go_wp2_with fail
    go_ret
    exact ⟨ret_int E.out.symm, hb2⟩
  · have E := Lib.hid (RN.out (by omega))
    have q := raw_quot p3 s0 (by omega)
    obtain ⟨q0, q1⟩ := q
    go_wp2_with fail
    refine wp_region_ext (by kernel_rfl) (by kernel_rfl) ?_
    repeat (go_big_quiet_step ((first | (go_at_call 60; exact quiet_ext (l04Direction_any _ _ I1.out I2.out _)) | (go_at_call 113; exact quiet_ext (l04Away_any (dirV x.f1 x.f2) (dirV az alt) v1 v2 _)))))
    refine wpQuiet_nil ?_
    intro e1
    have hb2 := HB.trans (e1.below.mono HB.size)
    obtain ⟨hlt2, _, _, _, k3, _⟩ := HX.out.below e1.below
    go_wp2_with fail
    refine wp_region_ext (by kernel_rfl) (by kernel_rfl) ?_
    repeat (go_big_quiet_step (fail))
    refine wpQuiet_nil ?_
    intro e2
    have hb3 := hb2.trans (e2.below.mono hb2.size)
    go_wp2_with fail
    go_ret
    exact ⟨ret_int E.out.symm, hb3⟩
set_option maxRecDepth 100000 in
set_option maxHeartbeats 4000000 in
theorem rawWeight_any (x : ProjectorD) (az alt : Int) (w : World) (hp : projB x = true) (ha : I64 az) (hl : I64 alt) (hT : Tab w) :
    Calls Tryd.prog 79 #[.agg #[.string x.f0, .int .i64 x.f1, .int .i64 x.f2, .int .i64 x.f3, .int .i64 x.f4], .int .i64 az, .int .i64 alt] w fun e w' => e = .returned (.int .i64 (rawP x az alt)) ∧ Below w.heap.size w w' := by
  obtain ⟨⟨p1, p1'⟩, ⟨p2, p2'⟩, ⟨p3, p3'⟩, p4, p4'⟩ := proj_dir hp
  have v1 := (dirV_bd x.f1 x.f2).mono (n := 2000000) (by omega)
  have v2 := (dirV_bd az alt).mono (n := 2000000) (by omega)
  obtain ⟨s0, s1⟩ := sepV_bd (dirV x.f1 x.f2) (dirV az alt)
  have RF := Lib.hid (rawP_far (x := x) (az := az) (alt := alt))
  have RN := Lib.hid (rawP_near (x := x) (az := az) (alt := alt))
  have HT := Lib.hid hT
  have HA := Lib.hid ha
  have HL := Lib.hid hl
  clear hT ha hl
  go_enter Tryd.func79, Tryd.ntmps79
  go_wp2_with fail
  generalize hW : World.alloc w _ = w1
  have HB : Below w.heap.size w w1 := by rw [← hW]; repeat (first | with_reducible exact Below.refl _ _ | with_reducible assumption | with_reducible refine Below.setCell ?_ (by simp <;> omega) _ | with_reducible refine Below.alloc ?_ (by simp <;> omega) _ | with_reducible refine Below.drew ?_)
  have x0 : Blk w1 w.heap.size 43 #[.string x.f0, .int .i64 x.f1, .int .i64 x.f2, .int .i64 x.f3, .int .i64 x.f4] := by rw [← hW]; exact Blk.new w _ _
  clear hW
  refine (directionOf_any _ _ ⟨by omega, by omega⟩ ⟨by omega, by omega⟩ _ (HT.out.below HB)).mono ?_
  rintro e w2 ⟨rfl, hb2⟩
  replace HB := HB.trans (hb2.mono HB.size)
  replace x0 := x0.below hb2 x0.lt
  go_wp2_with fail
  refine (directionOf_any _ _ HA.out HL.out _ (HT.out.below HB)).mono ?_
  rintro e w3 ⟨rfl, hb3⟩
  replace HB := HB.trans (hb3.mono HB.size)
  replace x0 := x0.below hb3 x0.lt
  go_wp2_with fail
  refine (separation_any (dirV x.f1 x.f2) (dirV az alt) v1 v2 _ (HT.out.below HB)).mono ?_
  rintro e w4 ⟨rfl, hb4⟩
  replace HB := HB.trans (hb4.mono HB.size)
  replace x0 := x0.below hb4 x0.lt
  have c0 := x0.cell 0
  have c1 := x0.cell 1
  have c2 := x0.cell 2
  have c3 := x0.cell 3
  have c4 := x0.cell 4
  simp at c0 c1 c2 c3 c4
  have cl := x0.lt
  by_cases far : x.f3 < sepV (dirV x.f1 x.f2) (dirV az alt)
  · have E := Lib.hid (RF.out (by omega))
    go_wp2_with fail
    go_ret
    exact ⟨ret_int E.out.symm, HB⟩
  · have E := Lib.hid (RN.out (by omega))
    have q := raw_quot p3 s0 (by omega)
    obtain ⟨q0, q1⟩ := q
    go_wp2_with fail
    go_ret
    exact ⟨ret_int E.out.symm, HB⟩
open Classical in
noncomputable def mRawV (x : ProjectorD) (az alt : Int) : Int := if projB x = true ∧ upB az alt = true then rawP x az alt else 0
noncomputable def mRawC (x : ProjectorD) (az alt : Int) : Int := if projB x = true then (if upB az alt = true then 0 else 2) else 1
theorem mRaw_no {x : ProjectorD} {az alt : Int} (h : projB x = false) : mRawV x az alt = 0 ∧ mRawC x az alt = 1 := by unfold mRawV mRawC; rw [h]; exact ⟨if_neg (fun h => by cases h.1), if_neg (by decide)⟩
theorem mRaw_out {x : ProjectorD} {az alt : Int} (h : projB x = true) (h' : upB az alt = false) : mRawV x az alt = 0 ∧ mRawC x az alt = 2 := by unfold mRawV mRawC; rw [h, h']; exact ⟨if_neg (fun h => by cases h.2), by rw [if_pos rfl, if_neg (by decide)]⟩
theorem mRaw_in {x : ProjectorD} {az alt : Int} (h : projB x = true) (h' : upB az alt = true) : mRawV x az alt = rawP x az alt ∧ mRawC x az alt = 0 := by unfold mRawV mRawC; rw [h, h']; exact ⟨if_pos ⟨rfl, rfl⟩, by rw [if_pos rfl, if_pos rfl]⟩
set_option maxRecDepth 100000 in
set_option maxHeartbeats 2000000 in
theorem implRawWeight_any (x0 : ByteArray) (x1 x2 x3 x4 : Int) (az alt : Int) (w : World) (y0 : x0.size ≤ 9223372036854775807) (y1 : -9223372036854775808 ≤ x1 ∧ x1 ≤ 9223372036854775807) (y2 : -9223372036854775808 ≤ x2 ∧ x2 ≤ 9223372036854775807) (y3 : -9223372036854775808 ≤ x3 ∧ x3 ≤ 9223372036854775807) (y4 : -9223372036854775808 ≤ x4 ∧ x4 ≤ 9223372036854775807) (ha : -9223372036854775808 ≤ az ∧ az ≤ 9223372036854775807) (hl : -9223372036854775808 ≤ alt ∧ alt ≤ 9223372036854775807) (hT : Tab w) :
    Calls Tryd.prog 22 #[.agg #[.string x0, .int .i64 x1, .int .i64 x2, .int .i64 x3, .int .i64 x4], .int .i64 az, .int .i64 alt] w fun e w' => e = .returned (.tuple #[.int .i64 (mRawV ⟨x0, x1, x2, x3, x4⟩ az alt), .int .i64 (mRawC ⟨x0, x1, x2, x3, x4⟩ az alt)]) ∧ Below w.heap.size w w' := by
  have OKP : ProjectorOk ⟨x0, x1, x2, x3, x4⟩ := ⟨y0, y1, y2, y3, y4⟩
  obtain ⟨x, hx⟩ : ∃ x : ProjectorD, x = ⟨x0, x1, x2, x3, x4⟩ := ⟨_, rfl⟩
  rw [← hx] at OKP ⊢
  have hagg : (Value.agg #[.string x0, .int .i64 x1, .int .i64 x2, .int .i64 x3, .int .i64 x4]) = .agg #[.string x.f0, .int .i64 x.f1, .int .i64 x.f2, .int .i64 x.f3, .int .i64 x.f4] := by rw [hx]
  rw [hagg]
  clear hagg hx y0 y1 y2 y3 y4
  have HT := Lib.hid hT
  clear hT
  go_enter Tryd.func22, Tryd.ntmps22
  go_wp2_with fail
  generalize hW : World.alloc w _ = w1
  have HB : Below w.heap.size w w1 := by rw [← hW]; repeat (first | with_reducible exact Below.refl _ _ | with_reducible assumption | with_reducible refine Below.setCell ?_ (by simp <;> omega) _ | with_reducible refine Below.alloc ?_ (by simp <;> omega) _ | with_reducible refine Below.drew ?_)
  have b0 : Blk w1 w.heap.size 43 #[.string x.f0, .int .i64 x.f1, .int .i64 x.f2, .int .i64 x.f3, .int .i64 x.f4] := by rw [← hW]; exact Blk.new w _ _
  clear hW
  refine (validProjector_any x _ OKP).mono ?_
  rintro e w2 ⟨rfl, hb2⟩
  replace HB := HB.trans (hb2.mono HB.size)
  replace b0 := b0.below hb2 b0.lt
  cases ok : projB x
  · have E := Lib.hid (mRaw_no (az := az) (alt := alt) ok)
    go_wp2_with fail
    go_ret2
    exact ⟨ret_tup E.out.1.symm E.out.2.symm, HB⟩
  go_wp2_with fail
  refine (isDomeUp_eq _ _ _).mono ?_
  rintro e w1 ⟨rfl, rfl⟩
  cases up : upB az alt
  · have E := Lib.hid (mRaw_out ok up)
    go_wp2_with fail
    go_ret2
    exact ⟨ret_tup E.out.1.symm E.out.2.symm, HB⟩
  have E := Lib.hid (mRaw_in ok up)
  clear up
  have q0 := b0.cell 0
  have q1 := b0.cell 1
  have q2 := b0.cell 2
  have q3 := b0.cell 3
  have q4 := b0.cell 4
  simp at q0 q1 q2 q3 q4
  have ql := b0.lt
  go_wp2_with fail
  refine (rawWeight_any x az alt _ ok ha hl (HT.out.below HB)).mono ?_
  rintro e w4 ⟨rfl, hb4⟩
  replace HB := HB.trans (hb4.mono HB.size)
  replace b0 := b0.below hb4 b0.lt
  go_wp2_with fail
  go_ret2
  exact ⟨ret_tup E.out.1.symm E.out.2.symm, HB⟩
end Go.Proofs.YthjllledhcfnhaaDoor
