/- DomePoint. Conditions: the arguments are int64; the sizes of strings; the variable sines holds its table. -/
import Derived.Test.YtdbgecohkhofeaaDoorDomeAsk
namespace Go.Proofs.YtdbgecohkhofeaaDoor
open Go.RowKit Go.Lib Go.Ks
noncomputable def mPtX (x : DomeD) (az alt : Int) : Int := sel (domeB x) (upB az alt) (ptV x.f1 az alt).f0
noncomputable def mPtY (x : DomeD) (az alt : Int) : Int := sel (domeB x) (upB az alt) (ptV x.f1 az alt).f1
noncomputable def mPtZ (x : DomeD) (az alt : Int) : Int := sel (domeB x) (upB az alt) (ptV x.f1 az alt).f2
noncomputable def mUpC (x : DomeD) (az alt : Int) : Int := code2 (domeB x) (upB az alt)
theorem mPt_no {x : DomeD} {az alt : Int} (h : domeB x = false) : mPtX x az alt = 0 ∧ mPtY x az alt = 0 ∧ mPtZ x az alt = 0 ∧ mUpC x az alt = 1 := ⟨sel_no h _, sel_no h _, sel_no h _, code2_no h⟩
theorem mPt_out {x : DomeD} {az alt : Int} (h : domeB x = true) (h' : upB az alt = false) : mPtX x az alt = 0 ∧ mPtY x az alt = 0 ∧ mPtZ x az alt = 0 ∧ mUpC x az alt = 2 := ⟨sel_out h' _, sel_out h' _, sel_out h' _, code2_out h h'⟩
theorem mPt_in {x : DomeD} {az alt : Int} (h : domeB x = true) (h' : upB az alt = true) : mPtX x az alt = (ptV x.f1 az alt).f0 ∧ mPtY x az alt = (ptV x.f1 az alt).f1 ∧ mPtZ x az alt = (ptV x.f1 az alt).f2 ∧ mUpC x az alt = 0 := ⟨sel_in h h' _, sel_in h h' _, sel_in h h' _, code2_in h h'⟩
set_option maxRecDepth 100000 in
set_option maxHeartbeats 4000000 in
theorem specDomePoint_any (x0 : ByteArray) (x1 x2 : Int) (az alt : Int) (w : World) (y0 : x0.size ≤ 9223372036854775807) (_y1 : -9223372036854775808 ≤ x1 ∧ x1 ≤ 9223372036854775807) (_y2 : -9223372036854775808 ≤ x2 ∧ x2 ≤ 9223372036854775807) (_ha : -9223372036854775808 ≤ az ∧ az ≤ 9223372036854775807) (hl : -9223372036854775808 ≤ alt ∧ alt ≤ 9223372036854775807) :
    Calls Tryd.prog 18 #[.agg #[.string x0, .int .i64 x1, .int .i64 x2], .int .i64 az, .int .i64 alt] w fun e w' => e = .returned (.tuple #[.agg #[.int .i64 (mPtX ⟨x0, x1, x2⟩ az alt), .int .i64 (mPtY ⟨x0, x1, x2⟩ az alt), .int .i64 (mPtZ ⟨x0, x1, x2⟩ az alt)], .int .i64 (mUpC ⟨x0, x1, x2⟩ az alt)]) ∧ Below w.heap.size w w' := by
  obtain ⟨x, hx⟩ : ∃ x : DomeD, x = ⟨x0, x1, x2⟩ := ⟨_, rfl⟩
  have OKP : x.f0.size ≤ 9223372036854775807 := by rw [hx]; exact y0
  rw [← hx]
  have hagg : (Value.agg #[.string x0, .int .i64 x1, .int .i64 x2]) = .agg #[.string x.f0, .int .i64 x.f1, .int .i64 x.f2] := by rw [hx]
  rw [hagg]
  clear hagg hx y0 _y1 _y2
  go_enter Tryd.func18, Tryd.ntmps18
  go_wp2_with fail
  generalize hW : World.alloc (World.alloc w _) _ = w1
  have HB : Below w.heap.size w w1 := by rw [← hW]; repeat (first | with_reducible exact Below.refl _ _ | with_reducible assumption | with_reducible refine Below.setCell ?_ (by simp <;> omega) _ | with_reducible refine Below.alloc ?_ (by simp <;> omega) _ | with_reducible refine Below.drew ?_)
  have b0 : Blk w1 w.heap.size 37 #[.string x.f0, .int .i64 x.f1, .int .i64 x.f2] := by rw [← hW]; exact (Blk.new w _ _).alloc _
  have r0 : Blk w1 (w.heap.size + 1) 34 #[.int .i64 0, .int .i64 0, .int .i64 0] := by
    have h := blk_alloc hW
    simpa using h
  clear hW
  refine (l09Ask_any _ 0 x az alt _ ⟨b0.lt, b0.cell 0, b0.cell 1, b0.cell 2⟩ OKP).mono ?_
  rintro e w2 ⟨rfl, rfl⟩
  rcases b_cases (domeB x) with ok | ok
  · have E := Lib.hid (mPt_no (az := az) (alt := alt) ok)
    rw [code2_no ok]
    have e0 := r0.cell 0
    have e1 := r0.cell 1
    have e2 := r0.cell 2
    simp at e0 e1 e2
    have el := r0.lt
    have eg0 := r0.frozen 0
    have eg1 := r0.frozen 1
    have eg2 := r0.frozen 2
    go_wp2_with fail
    refine bodyPost_ret (v := .tuple #[.agg #[.int .i64 0, .int .i64 0, .int .i64 0], .int .i64 1]) (by simp [results, Tryd.results18, go_sem, e0, e1, e2]) rfl ⟨ret_vec E.out.1.symm E.out.2.1.symm E.out.2.2.1.symm E.out.2.2.2.symm, ?_⟩
    repeat (first | with_reducible exact Below.refl _ _ | with_reducible assumption | with_reducible refine Below.setCell ?_ (by simp <;> omega) _ | with_reducible refine Below.alloc ?_ (by simp <;> omega) _ | with_reducible refine Below.drew ?_)
  rcases b_cases (upB az alt) with up | up
  · have E := Lib.hid (mPt_out ok up)
    rw [code2_out ok up]
    have e0 := r0.cell 0
    have e1 := r0.cell 1
    have e2 := r0.cell 2
    simp at e0 e1 e2
    have el := r0.lt
    have eg0 := r0.frozen 0
    have eg1 := r0.frozen 1
    have eg2 := r0.frozen 2
    go_wp2_with fail
    refine bodyPost_ret (v := .tuple #[.agg #[.int .i64 0, .int .i64 0, .int .i64 0], .int .i64 2]) (by simp [results, Tryd.results18, go_sem, e0, e1, e2]) rfl ⟨ret_vec E.out.1.symm E.out.2.1.symm E.out.2.2.1.symm E.out.2.2.2.symm, ?_⟩
    repeat (first | with_reducible exact Below.refl _ _ | with_reducible assumption | with_reducible refine Below.setCell ?_ (by simp <;> omega) _ | with_reducible refine Below.alloc ?_ (by simp <;> omega) _ | with_reducible refine Below.drew ?_)
  · have E := Lib.hid (mPt_in ok up)
    rw [code2_in ok up]
    have R := dome_nums ok
    have U := upB_iff.1 up
    clear up
    go_wp2_with fail
    refine (l09Point_any _ 0 x az alt _ ⟨b0.lt, b0.cell 0, b0.cell 1, b0.cell 2⟩ R.1 U.1 hl).mono ?_
    rintro e w3 ⟨rfl, hb3⟩
    replace HB := HB.trans (hb3.mono HB.size)
    replace b0 := b0.below hb3 b0.lt
    replace r0 := r0.below hb3 r0.lt
    have e0 := r0.cell 0
    have e1 := r0.cell 1
    have e2 := r0.cell 2
    simp at e0 e1 e2
    have el := r0.lt
    have eg0 := r0.frozen 0
    have eg1 := r0.frozen 1
    have eg2 := r0.frozen 2
    go_wp2_with fail
    refine bodyPost_ret (v := .tuple #[.agg #[.int .i64 (ptV x.f1 az alt).f0, .int .i64 (ptV x.f1 az alt).f1, .int .i64 (ptV x.f1 az alt).f2], .int .i64 0]) (by simp [results, Tryd.results18, go_sem, e0, e1, e2]) rfl ⟨ret_vec E.out.1.symm E.out.2.1.symm E.out.2.2.1.symm E.out.2.2.2.symm, ?_⟩
    repeat (first | with_reducible exact Below.refl _ _ | with_reducible assumption | with_reducible refine Below.setCell ?_ (by simp <;> omega) _ | with_reducible refine Below.alloc ?_ (by simp <;> omega) _ | with_reducible refine Below.drew ?_)
set_option maxRecDepth 100000 in
set_option maxHeartbeats 4000000 in
theorem implDomePoint_any (x0 : ByteArray) (x1 x2 : Int) (az alt : Int) (w : World) (y0 : x0.size ≤ 9223372036854775807) (_y1 : -9223372036854775808 ≤ x1 ∧ x1 ≤ 9223372036854775807) (_y2 : -9223372036854775808 ≤ x2 ∧ x2 ≤ 9223372036854775807) (_ha : -9223372036854775808 ≤ az ∧ az ≤ 9223372036854775807) (hl : -9223372036854775808 ≤ alt ∧ alt ≤ 9223372036854775807) (hT : Tab w) :
    Calls Tryd.prog 20 #[.agg #[.string x0, .int .i64 x1, .int .i64 x2], .int .i64 az, .int .i64 alt] w fun e w' => e = .returned (.tuple #[.agg #[.int .i64 (mPtX ⟨x0, x1, x2⟩ az alt), .int .i64 (mPtY ⟨x0, x1, x2⟩ az alt), .int .i64 (mPtZ ⟨x0, x1, x2⟩ az alt)], .int .i64 (mUpC ⟨x0, x1, x2⟩ az alt)]) ∧ Below w.heap.size w w' := by
  obtain ⟨x, hx⟩ : ∃ x : DomeD, x = ⟨x0, x1, x2⟩ := ⟨_, rfl⟩
  have OKP : x.f0.size ≤ 9223372036854775807 := by rw [hx]; exact y0
  rw [← hx]
  have hagg : (Value.agg #[.string x0, .int .i64 x1, .int .i64 x2]) = .agg #[.string x.f0, .int .i64 x.f1, .int .i64 x.f2] := by rw [hx]
  rw [hagg]
  clear hagg hx y0 _y1 _y2
  have HT := Lib.hid hT
  clear hT
  go_enter Tryd.func20, Tryd.ntmps20
  go_wp2_with fail
  generalize hW : World.alloc (World.alloc w _) _ = w1
  have HB : Below w.heap.size w w1 := by rw [← hW]; repeat (first | with_reducible exact Below.refl _ _ | with_reducible assumption | with_reducible refine Below.setCell ?_ (by simp <;> omega) _ | with_reducible refine Below.alloc ?_ (by simp <;> omega) _ | with_reducible refine Below.drew ?_)
  have b0 : Blk w1 w.heap.size 37 #[.string x.f0, .int .i64 x.f1, .int .i64 x.f2] := by rw [← hW]; exact (Blk.new w _ _).alloc _
  have r0 : Blk w1 (w.heap.size + 1) 34 #[.int .i64 0, .int .i64 0, .int .i64 0] := by
    have h := blk_alloc hW
    simpa using h
  clear hW
  refine (validDome_any x _ OKP).mono ?_
  rintro e w2 ⟨rfl, hb2⟩
  replace HB := HB.trans (hb2.mono HB.size)
  replace b0 := b0.below hb2 b0.lt
  replace r0 := r0.below hb2 r0.lt
  rcases b_cases (domeB x) with ok | ok
  · have E := Lib.hid (mPt_no (az := az) (alt := alt) ok)
    have e0 := r0.cell 0
    have e1 := r0.cell 1
    have e2 := r0.cell 2
    simp at e0 e1 e2
    have el := r0.lt
    have eg0 := r0.frozen 0
    have eg1 := r0.frozen 1
    have eg2 := r0.frozen 2
    go_wp2_with fail
    refine bodyPost_ret (v := .tuple #[.agg #[.int .i64 0, .int .i64 0, .int .i64 0], .int .i64 1]) (by simp [results, Tryd.results20, go_sem, e0, e1, e2]) rfl ⟨ret_vec E.out.1.symm E.out.2.1.symm E.out.2.2.1.symm E.out.2.2.2.symm, ?_⟩
    repeat (first | with_reducible exact Below.refl _ _ | with_reducible assumption | with_reducible refine Below.setCell ?_ (by simp <;> omega) _ | with_reducible refine Below.alloc ?_ (by simp <;> omega) _ | with_reducible refine Below.drew ?_)
  go_wp2_with fail
  refine (isDomeUp_eq _ _ _).mono ?_
  rintro e w1 ⟨rfl, rfl⟩
  rcases b_cases (upB az alt) with up | up
  · have E := Lib.hid (mPt_out ok up)
    have e0 := r0.cell 0
    have e1 := r0.cell 1
    have e2 := r0.cell 2
    simp at e0 e1 e2
    have el := r0.lt
    have eg0 := r0.frozen 0
    have eg1 := r0.frozen 1
    have eg2 := r0.frozen 2
    go_wp2_with fail
    refine bodyPost_ret (v := .tuple #[.agg #[.int .i64 0, .int .i64 0, .int .i64 0], .int .i64 2]) (by simp [results, Tryd.results20, go_sem, e0, e1, e2]) rfl ⟨ret_vec E.out.1.symm E.out.2.1.symm E.out.2.2.1.symm E.out.2.2.2.symm, ?_⟩
    repeat (first | with_reducible exact Below.refl _ _ | with_reducible assumption | with_reducible refine Below.setCell ?_ (by simp <;> omega) _ | with_reducible refine Below.alloc ?_ (by simp <;> omega) _ | with_reducible refine Below.drew ?_)
  · have E := Lib.hid (mPt_in ok up)
    have R := dome_nums ok
    have U := upB_iff.1 up
    have q0 := b0.cell 0
    have q1 := b0.cell 1
    have q2 := b0.cell 2
    simp at q0 q1 q2
    have ql := b0.lt
    go_wp2_with fail
    refine (domePoint_any x az alt _ R.1 U.1 hl (HT.out.below HB)).mono ?_
    rintro e w3 ⟨rfl, hb3⟩
    replace HB := HB.trans (hb3.mono HB.size)
    replace b0 := b0.below hb3 b0.lt
    replace r0 := r0.below hb3 r0.lt
    have e0 := r0.cell 0
    have e1 := r0.cell 1
    have e2 := r0.cell 2
    simp at e0 e1 e2
    have el := r0.lt
    have eg0 := r0.frozen 0
    have eg1 := r0.frozen 1
    have eg2 := r0.frozen 2
    go_wp2_with fail
    refine bodyPost_ret (v := .tuple #[.agg #[.int .i64 (ptV x.f1 az alt).f0, .int .i64 (ptV x.f1 az alt).f1, .int .i64 (ptV x.f1 az alt).f2], .int .i64 0]) (by simp [results, Tryd.results20, go_sem, e0, e1, e2]) rfl ⟨ret_vec E.out.1.symm E.out.2.1.symm E.out.2.2.1.symm E.out.2.2.2.symm, ?_⟩
    repeat (first | with_reducible exact Below.refl _ _ | with_reducible assumption | with_reducible refine Below.setCell ?_ (by simp <;> omega) _ | with_reducible refine Below.alloc ?_ (by simp <;> omega) _ | with_reducible refine Below.drew ?_)
end Go.Proofs.YtdbgecohkhofeaaDoor
