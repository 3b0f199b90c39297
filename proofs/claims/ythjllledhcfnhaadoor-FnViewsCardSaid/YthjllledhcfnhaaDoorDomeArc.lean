/- ArcOnDome. Conditions: the arguments are int64; the sizes of strings; the variable sines holds its table. -/
import Derived.Test.YthjllledhcfnhaaDoorDomeAsk
namespace Go.Proofs.YthjllledhcfnhaaDoor
open Go.RowKit Go.Lib Go.Ks
noncomputable def mArcV (x : DomeD) (az alt bz blt : Int) : Int := sel (domeB x) (upB az alt && upB bz blt) (arcOn x.f1 (sepV (dirV az alt) (dirV bz blt)))
noncomputable def mArcC (x : DomeD) (az alt bz blt : Int) : Int := code2 (domeB x) (upB az alt && upB bz blt)
section
variable {x : DomeD} {az alt bz blt : Int}
theorem mArc_no (h : domeB x = false) : mArcV x az alt bz blt = 0 ∧ mArcC x az alt bz blt = 1 := ⟨sel_no h _, code2_no h⟩
theorem mArc_out1 (h : domeB x = true) (h' : upB az alt = false) : mArcV x az alt bz blt = 0 ∧ mArcC x az alt bz blt = 2 := ⟨sel_out (by rw [h', Bool.false_and]) _, code2_out h (by rw [h', Bool.false_and])⟩
theorem mArc_out2 (h : domeB x = true) (h' : upB bz blt = false) : mArcV x az alt bz blt = 0 ∧ mArcC x az alt bz blt = 2 := ⟨sel_out (by rw [h', Bool.and_false]) _, code2_out h (by rw [h', Bool.and_false])⟩
theorem mArc_in (h : domeB x = true) (h' : upB az alt = true) (h'' : upB bz blt = true) : mArcV x az alt bz blt = arcOn x.f1 (sepV (dirV az alt) (dirV bz blt)) ∧ mArcC x az alt bz blt = 0 := ⟨sel_in h (by rw [h', h'', Bool.and_true]) _, code2_in h (by rw [h', h'', Bool.and_true])⟩
end
set_option maxRecDepth 100000 in
set_option maxHeartbeats 2000000 in
theorem implArcOnDome_any (x0 : ByteArray) (x1 x2 : Int) (az alt bz blt : Int) (w : World) (y0 : x0.size ≤ 9223372036854775807) (_y1 : -9223372036854775808 ≤ x1 ∧ x1 ≤ 9223372036854775807) (_y2 : -9223372036854775808 ≤ x2 ∧ x2 ≤ 9223372036854775807) (ha : -9223372036854775808 ≤ az ∧ az ≤ 9223372036854775807) (hl : -9223372036854775808 ≤ alt ∧ alt ≤ 9223372036854775807) (hb : -9223372036854775808 ≤ bz ∧ bz ≤ 9223372036854775807) (hg : -9223372036854775808 ≤ blt ∧ blt ≤ 9223372036854775807) (hT : Tab w) :
    Calls Tryd.prog 35 #[.agg #[.string x0, .int .i64 x1, .int .i64 x2], .int .i64 az, .int .i64 alt, .int .i64 bz, .int .i64 blt] w fun e w' => e = .returned (.tuple #[.int .i64 (mArcV ⟨x0, x1, x2⟩ az alt bz blt), .int .i64 (mArcC ⟨x0, x1, x2⟩ az alt bz blt)]) ∧ Below w.heap.size w w' := by
  obtain ⟨x, hx⟩ : ∃ x : DomeD, x = ⟨x0, x1, x2⟩ := ⟨_, rfl⟩
  have OKP : x.f0.size ≤ 9223372036854775807 := by rw [hx]; exact y0
  rw [← hx]
  have hagg : (Value.agg #[.string x0, .int .i64 x1, .int .i64 x2]) = .agg #[.string x.f0, .int .i64 x.f1, .int .i64 x.f2] := by rw [hx]
  rw [hagg]
  clear hagg hx y0 _y1 _y2
  have HT := Lib.hid hT
  clear hT
  go_enter Tryd.func35, Tryd.ntmps35
  go_wp2_with fail
  generalize hW : World.alloc w _ = w1
  have HB := below_alloc hW
  have b0 := blk_alloc hW
  clear hW
  refine (validDome_any x _ OKP).mono ?_
  rintro e w2 ⟨rfl, hb2⟩
  replace HB := HB.trans (hb2.mono HB.size)
  replace b0 := b0.below hb2 b0.lt
  rcases b_cases (domeB x) with ok | ok
  · have E := Lib.hid (mArc_no (az := az) (alt := alt) (bz := bz) (blt := blt) ok)
    go_wp2_with fail
    go_ret2
    exact ⟨ret_tup E.out.1.symm E.out.2.symm, HB⟩
  go_wp2_with fail
  refine (isDomeUp_eq _ _ _).mono ?_
  rintro e w1 ⟨rfl, rfl⟩
  rcases b_cases (upB az alt) with up | up
  · have E := Lib.hid (mArc_out1 (bz := bz) (blt := blt) ok up)
    go_wp2_with fail
    go_ret2
    exact ⟨ret_tup E.out.1.symm E.out.2.symm, HB⟩
  go_wp2_with fail
  refine (isDomeUp_eq _ _ _).mono ?_
  rintro e w1 ⟨rfl, rfl⟩
  rcases b_cases (upB bz blt) with uq | uq
  · have E := Lib.hid (mArc_out2 (az := az) (alt := alt) ok uq)
    go_wp2_with fail
    go_ret2
    exact ⟨ret_tup E.out.1.symm E.out.2.symm, HB⟩
  have E := Lib.hid (mArc_in ok up uq)
  obtain ⟨⟨R0, R1⟩, _⟩ := dome_nums ok
  obtain ⟨s0, s1⟩ := sepV_bd (dirV az alt) (dirV bz blt)
  obtain ⟨⟨k0, k1⟩, k2, k3⟩ := arc_bd (r := x.f1) (d := sepV (dirV az alt) (dirV bz blt)) (by omega) (by omega) s0 s1
  have v1 := (dirV_bd az alt).mono (n := 2000000) (by omega)
  have v2 := (dirV_bd bz blt).mono (n := 2000000) (by omega)
  go_wp2_with fail
  refine (directionOf_any _ _ ha hl _ (HT.out.below HB)).mono ?_
  rintro e w4 ⟨rfl, hb4⟩
  replace HB := HB.trans (hb4.mono HB.size)
  replace b0 := b0.below hb4 b0.lt
  go_wp2_with fail
  refine (directionOf_any _ _ hb hg _ (HT.out.below HB)).mono ?_
  rintro e w5 ⟨rfl, hb5⟩
  replace HB := HB.trans (hb5.mono HB.size)
  replace b0 := b0.below hb5 b0.lt
  go_wp2_with fail
  refine (separation_any (dirV az alt) (dirV bz blt) v1 v2 _ (HT.out.below HB)).mono ?_
  rintro e w6 ⟨rfl, hb6⟩
  replace HB := HB.trans (hb6.mono HB.size)
  replace b0 := b0.below hb6 b0.lt
  have q0 := b0.cell 0
  have q1 := b0.cell 1
  have q2 := b0.cell 2
  simp at q0 q1 q2
  have ql := b0.lt
  go_wp2_with fail
  refine (nearest_any _ _ (by omega) (by omega) (by omega) (by omega) _).mono ?_
  rintro e w7 ⟨rfl, hb7⟩
  replace HB := HB.trans (hb7.mono HB.size)
  replace b0 := b0.below hb7 b0.lt
  go_wp2_with fail
  go_ret2
  exact ⟨ret_tup E.out.1.symm E.out.2.symm, HB⟩
end Go.Proofs.YthjllledhcfnhaaDoor
