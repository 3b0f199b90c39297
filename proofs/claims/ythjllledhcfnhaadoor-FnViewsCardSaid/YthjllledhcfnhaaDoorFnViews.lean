/- FnViews returns true at every input. Conditions: those that the arguments meet; the variable sines holds its table. -/
import Derived.Test.YthjllledhcfnhaaDoorViewsLaw
import Derived.Test.YthjllledhcfnhaaDoorDrawDome
import Derived.Test.YthjllledhcfnhaaDoorDomeArc
import Derived.Test.YthjllledhcfnhaaDoorR8
import Derived.Test.YthjllledhcfnhaaDoorTail
import Derived.Deep.DeepCutAuto
import Derived.Test.YthjllledhcfnhaaDoorDomeAsk
namespace Go.Proofs.YthjllledhcfnhaaDoor
open Go.RowKit Go.Lib Go.Ks
noncomputable def mPtX (x : DomeD) (az alt : Int) : Int := sel (domeB x) (upB az alt) (ptV x.f1 az alt).f0
noncomputable def mPtY (x : DomeD) (az alt : Int) : Int := sel (domeB x) (upB az alt) (ptV x.f1 az alt).f1
noncomputable def mPtZ (x : DomeD) (az alt : Int) : Int := sel (domeB x) (upB az alt) (ptV x.f1 az alt).f2
noncomputable def mUpC (x : DomeD) (az alt : Int) : Int := code2 (domeB x) (upB az alt)
theorem mPt_no {x : DomeD} {az alt : Int} (h : domeB x = false) : mPtX x az alt = 0 ∧ mPtY x az alt = 0 ∧ mPtZ x az alt = 0 ∧ mUpC x az alt = 1 := ⟨sel_no h _, sel_no h _, sel_no h _, code2_no h⟩
theorem mPt_out {x : DomeD} {az alt : Int} (h : domeB x = true) (h' : upB az alt = false) : mPtX x az alt = 0 ∧ mPtY x az alt = 0 ∧ mPtZ x az alt = 0 ∧ mUpC x az alt = 2 := ⟨sel_out h' _, sel_out h' _, sel_out h' _, code2_out h h'⟩
theorem mPt_in {x : DomeD} {az alt : Int} (h : domeB x = true) (h' : upB az alt = true) : mPtX x az alt = (ptV x.f1 az alt).f0 ∧ mPtY x az alt = (ptV x.f1 az alt).f1 ∧ mPtZ x az alt = (ptV x.f1 az alt).f2 ∧ mUpC x az alt = 0 := ⟨sel_in h h' _, sel_in h h' _, sel_in h h' _, code2_in h h'⟩
set_option maxRecDepth 100000 in
set_option maxHeartbeats 4000000 in
theorem implDomePoint_any (x0 : ByteArray) (x1 x2 : Int) (az alt : Int) (w : World) (y0 : x0.size ≤ 9223372036854775807) (_y1 : -9223372036854775808 ≤ x1 ∧ x1 ≤ 9223372036854775807) (_y2 : -9223372036854775808 ≤ x2 ∧ x2 ≤ 9223372036854775807) (_ha : -9223372036854775808 ≤ az ∧ az ≤ 9223372036854775807) (hl : -9223372036854775808 ≤ alt ∧ alt ≤ 9223372036854775807) (hT : Tab w) :
    Calls Tryd.prog 33 #[.agg #[.string x0, .int .i64 x1, .int .i64 x2], .int .i64 az, .int .i64 alt] w fun e w' => e = .returned (.tuple #[.agg #[.int .i64 (mPtX ⟨x0, x1, x2⟩ az alt), .int .i64 (mPtY ⟨x0, x1, x2⟩ az alt), .int .i64 (mPtZ ⟨x0, x1, x2⟩ az alt)], .int .i64 (mUpC ⟨x0, x1, x2⟩ az alt)]) ∧ Below w.heap.size w w' := by
  obtain ⟨x, hx⟩ : ∃ x : DomeD, x = ⟨x0, x1, x2⟩ := ⟨_, rfl⟩
  have OKP : x.f0.size ≤ 9223372036854775807 := by rw [hx]; exact y0
  rw [← hx]
  have hagg : (Value.agg #[.string x0, .int .i64 x1, .int .i64 x2]) = .agg #[.string x.f0, .int .i64 x.f1, .int .i64 x.f2] := by rw [hx]
  rw [hagg]
  clear hagg hx y0 _y1 _y2
  have HT := Lib.hid hT
  clear hT
  go_enter Tryd.func33, Tryd.ntmps33
  go_wp2_with fail
  generalize hW : World.alloc (World.alloc w _) _ = w1
  have HB : Below w.heap.size w w1 := by rw [← hW]; repeat (first | with_reducible exact Below.refl _ _ | with_reducible assumption | with_reducible refine Below.setCell ?_ (by simp <;> omega) _ | with_reducible refine Below.alloc ?_ (by simp <;> omega) _ | with_reducible refine Below.drew ?_)
  have b0 : Blk w1 w.heap.size 54 #[.string x.f0, .int .i64 x.f1, .int .i64 x.f2] := by rw [← hW]; exact (Blk.new w _ _).alloc _
  have r0 : Blk w1 (w.heap.size + 1) 58 #[.int .i64 0, .int .i64 0, .int .i64 0] := by
    have h := blk_alloc hW
    simpa using h
  clear hW
  refine (validDome_any x _ OKP).mono ?_
  rintro e w2 ⟨rfl, hb2⟩
  replace HB := HB.trans (hb2.mono HB.size)
  replace b0 := b0.below hb2 b0.lt
  replace r0 := r0.below hb2 r0.lt
  rcases b_cases (domeB x) with ok | ok
  · have E := Lib.hid (mPt_no (az := az) (alt := alt) ok)
    have e0 := r0.cell 0
    have e1 := r0.cell 1
    have e2 := r0.cell 2
    simp at e0 e1 e2
    have el := r0.lt
    have eg0 := r0.frozen 0
    have eg1 := r0.frozen 1
    have eg2 := r0.frozen 2
    go_wp2_with fail
    refine bodyPost_ret (v := .tuple #[.agg #[.int .i64 0, .int .i64 0, .int .i64 0], .int .i64 1]) (by simp [results, Tryd.results33, go_sem, e0, e1, e2]) rfl ⟨ret_vec E.out.1.symm E.out.2.1.symm E.out.2.2.1.symm E.out.2.2.2.symm, ?_⟩
    repeat (first | with_reducible exact Below.refl _ _ | with_reducible assumption | with_reducible refine Below.setCell ?_ (by simp <;> omega) _ | with_reducible refine Below.alloc ?_ (by simp <;> omega) _ | with_reducible refine Below.drew ?_)
  go_wp2_with fail
  refine (isDomeUp_eq _ _ _).mono ?_
  rintro e w1 ⟨rfl, rfl⟩
  rcases b_cases (upB az alt) with up | up
  · have E := Lib.hid (mPt_out ok up)
    have e0 := r0.cell 0
    have e1 := r0.cell 1
    have e2 := r0.cell 2
    simp at e0 e1 e2
    have el := r0.lt
    have eg0 := r0.frozen 0
    have eg1 := r0.frozen 1
    have eg2 := r0.frozen 2
    go_wp2_with fail
    refine bodyPost_ret (v := .tuple #[.agg #[.int .i64 0, .int .i64 0, .int .i64 0], .int .i64 2]) (by simp [results, Tryd.results33, go_sem, e0, e1, e2]) rfl ⟨ret_vec E.out.1.symm E.out.2.1.symm E.out.2.2.1.symm E.out.2.2.2.symm, ?_⟩
    repeat (first | with_reducible exact Below.refl _ _ | with_reducible assumption | with_reducible refine Below.setCell ?_ (by simp <;> omega) _ | with_reducible refine Below.alloc ?_ (by simp <;> omega) _ | with_reducible refine Below.drew ?_)
  · have E := Lib.hid (mPt_in ok up)
    have R := dome_nums ok
    have U := upB_iff.1 up
    have q0 := b0.cell 0
    have q1 := b0.cell 1
    have q2 := b0.cell 2
    simp at q0 q1 q2
    have ql := b0.lt
    go_wp2_with fail
    refine (domePoint_any x az alt _ R.1 U.1 hl (HT.out.below HB)).mono ?_
    rintro e w3 ⟨rfl, hb3⟩
    replace HB := HB.trans (hb3.mono HB.size)
    replace b0 := b0.below hb3 b0.lt
    replace r0 := r0.below hb3 r0.lt
    have e0 := r0.cell 0
    have e1 := r0.cell 1
    have e2 := r0.cell 2
    simp at e0 e1 e2
    have el := r0.lt
    have eg0 := r0.frozen 0
    have eg1 := r0.frozen 1
    have eg2 := r0.frozen 2
    go_wp2_with fail
    refine bodyPost_ret (v := .tuple #[.agg #[.int .i64 (ptV x.f1 az alt).f0, .int .i64 (ptV x.f1 az alt).f1, .int .i64 (ptV x.f1 az alt).f2], .int .i64 0]) (by simp [results, Tryd.results33, go_sem, e0, e1, e2]) rfl ⟨ret_vec E.out.1.symm E.out.2.1.symm E.out.2.2.1.symm E.out.2.2.2.symm, ?_⟩
    repeat (first | with_reducible exact Below.refl _ _ | with_reducible assumption | with_reducible refine Below.setCell ?_ (by simp <;> omega) _ | with_reducible refine Below.alloc ?_ (by simp <;> omega) _ | with_reducible refine Below.drew ?_)
end Go.Proofs.YthjllledhcfnhaaDoor
namespace Go.Proofs.YthjllledhcfnhaaDoor
open Go.RowKit Go.Lib Go.Ks Go.Ks.Num
theorem w64_in {x : Int} (h : -9223372036854775808 ≤ x ∧ x ≤ 9223372036854775807) : wrap64 x = x := by unfold wrap64; omega
section
variable {x : DomeD} {az alt bz blt : Int}
theorem domP_is (hx : DomB x) (hu : upB az alt = true) (w : World) (hT : Tab w) :
    Calls Tryd.prog 33 #[.agg #[.string x.f0, .int .i64 x.f1, .int .i64 x.f2], .int .i64 az, .int .i64 alt] w fun e w' => e = .returned (.tuple #[.agg #[.int .i64 (ptV x.f1 az alt).f0, .int .i64 (ptV x.f1 az alt).f1, .int .i64 (ptV x.f1 az alt).f2], .int .i64 0]) ∧ Below w.heap.size w w' := by
  obtain ⟨h1, h2, h3, h4⟩ := hx
  obtain ⟨⟨a0, a1⟩, l0, l1⟩ := upB_iff.1 hu
  have h := implDomePoint_any x.f0 x.f1 x.f2 az alt w (by omega) (by omega) (by omega) (by omega) (by omega) hT
  have e : (⟨x.f0, x.f1, x.f2⟩ : DomeD) = x := rfl
  unfold mPtX mPtY mPtZ mUpC sel code2 at h
  rw [e, h1, hu] at h
  exact h
theorem arc_is {d : Int} (hx : DomB x) (hu : upB az alt = true) (hv : upB bz blt = true) (w : World) (hT : Tab w) (hd : arcOn x.f1 (sepV (dirV az alt) (dirV bz blt)) = d) :
    Calls Tryd.prog 35 #[.agg #[.string x.f0, .int .i64 x.f1, .int .i64 x.f2], .int .i64 az, .int .i64 alt, .int .i64 bz, .int .i64 blt] w fun e w' => e = .returned (.tuple #[.int .i64 d, .int .i64 0]) ∧ Below w.heap.size w w' := by
  obtain ⟨h1, h2, h3, h4⟩ := hx
  obtain ⟨⟨a0, a1⟩, l0, l1⟩ := upB_iff.1 hu
  obtain ⟨⟨b0, b1⟩, m0, m1⟩ := upB_iff.1 hv
  have h := implArcOnDome_any x.f0 x.f1 x.f2 az alt bz blt w (by omega) (by omega) (by omega) (by omega) (by omega) (by omega) (by omega) hT
  have e : (⟨x.f0, x.f1, x.f2⟩ : DomeD) = x := rfl
  unfold mArcV mArcC sel code2 at h
  rw [e, h1, hu, hv] at h
  simp only [Bool.and_self, if_true] at h
  rw [hd] at h
  exact h
theorem view_is {s : VectorD} {u v n : Int} (hx : DomB x) (hu : upB az alt = true) (hs : seatB x.f1 s = true) (hb : Vb 30000 s) (w : World) (hT : Tab w) (h0 : viewA x.f1 s az alt = u) (h1 : viewB x.f1 s az alt = v) (h2 : lenV (viewV x.f1 s az alt) = n) :
    Calls Tryd.prog 36 #[.agg #[.string x.f0, .int .i64 x.f1, .int .i64 x.f2], .agg #[.int .i64 s.f0, .int .i64 s.f1, .int .i64 s.f2], .int .i64 az, .int .i64 alt] w fun e w' => e = .returned (.tuple #[.int .i64 u, .int .i64 v, .int .i64 n, .int .i64 0]) ∧ Below w.heap.size w w' := by
  obtain ⟨k1, k2, k3, k4⟩ := hx
  obtain ⟨⟨a0, a1⟩, l0, l1⟩ := upB_iff.1 hu
  obtain ⟨c0, c1, c2⟩ := hb
  have h := implViewFrom_any x.f0 x.f1 x.f2 s.f0 s.f1 s.f2 az alt w (by omega) (by omega) (by omega) (by omega) (by omega) (by omega) (by omega) (by omega) hT
  have e : (⟨x.f0, x.f1, x.f2⟩ : DomeD) = x := rfl
  have e2 : (⟨s.f0, s.f1, s.f2⟩ : VectorD) = s := rfl
  unfold mVwA mVwB mVwL mVwC sel at h
  rw [e, e2, k1, hu, hs] at h
  simp only [Bool.and_self, if_true] at h
  rw [h0, h1, h2] at h
  exact h
theorem worst_is {s : VectorD} {st v : Int} (hx : DomB x) (hst : 15000 ≤ st ∧ st ≤ 90000) (hs : seatB x.f1 s = true) (hb : Vb 30000 s) (w : World) (hT : Tab w) (h0 : worstV x.f1 s st = v) :
    Calls Tryd.prog 37 #[.agg #[.string x.f0, .int .i64 x.f1, .int .i64 x.f2], .agg #[.int .i64 s.f0, .int .i64 s.f1, .int .i64 s.f2], .int .i64 st] w fun e w' => e = .returned (.tuple #[.int .i64 v, .int .i64 0]) ∧ Below w.heap.size w w' := by
  obtain ⟨k1, k2, k3, k4⟩ := hx
  obtain ⟨c0, c1, c2⟩ := hb
  have h := implWorstView_any x.f0 x.f1 x.f2 s.f0 s.f1 s.f2 st w (by omega) (by omega) (by omega) (by omega) (by omega) (by omega) (by omega) hT
  have e : (⟨x.f0, x.f1, x.f2⟩ : DomeD) = x := rfl
  have e2 : (⟨s.f0, s.f1, s.f2⟩ : VectorD) = s := rfl
  unfold mWoV mWoC at h
  rw [e, e2, k1, inB_iff.2 hst, hs] at h
  simp only [Bool.and_self, if_true] at h
  rw [h0] at h
  exact h
theorem seat_mid (hx : DomB x) : seatB x.f1 ⟨0, 0, 0⟩ = true := by
  obtain ⟨_, h2, _⟩ := hx
  have p : 0 < (x.f1 - 1) * (x.f1 - 1) := Int.mul_pos (by omega) (by omega)
  unfold seatB
  simp only
  rw [inB_iff.2 ⟨by omega, by omega⟩, decide_eq_true (show (0 : Int) * 0 + 0 * 0 + 0 * 0 < (x.f1 - 1) * (x.f1 - 1) by omega)]
  rfl
theorem seat_third (hx : DomB x) : seatB x.f1 ⟨x.f1 / 3, 0, 0⟩ = true := by
  obtain ⟨_, h2, _⟩ := hx
  have p : x.f1 / 3 * (x.f1 / 3) < (x.f1 - 1) * (x.f1 - 1) := by
    have h1 : x.f1 / 3 * (x.f1 / 3) ≤ (x.f1 - 2) * (x.f1 - 2) := Int.mul_le_mul (by omega) (by omega) (by omega) (by omega)
    have e : (x.f1 - 1) * (x.f1 - 1) = (x.f1 - 2) * (x.f1 - 2) + 2 * x.f1 - 3 := by grind
    omega
  unfold seatB
  simp only
  rw [inB_iff.2 ⟨by omega, by omega⟩, inB_iff.2 ⟨by omega, by omega⟩, decide_eq_true (show x.f1 / 3 * (x.f1 / 3) + 0 * 0 + 0 * 0 < (x.f1 - 1) * (x.f1 - 1) by omega)]
  rfl
end
set_option maxRecDepth 100000 in
set_option maxHeartbeats 8000000 in
theorem fnViews_any (A0 : Option Addr) (n0 c0 : Nat) (l0 : Nat → Int) (A1 : Option Addr) (n1 c1 : Nat) (l1 : Nat → Int) (w : World) (b0 : n0 ≤ 9223372036854775807) (s0 : Sl w A0 (n0 * 1) (ByteC l0)) (g0 : ∀ k, k < n0 → 0 ≤ l0 k ∧ l0 k ≤ 255) (b1 : n1 ≤ 9223372036854775807) (s1 : Sl w A1 (n1 * 1) (ByteC l1)) (g1 : ∀ k, k < n1 → 0 ≤ l1 k ∧ l1 k ≤ 255) (hT : Tab w) :
    Calls Tryd.prog 6 #[.slice A0 n0 c0, .slice A1 n1 c1] w fun e w' => e = .returned (.bool true) ∧ Below w.heap.size w w' := by
  go_enter Tryd.func6, Tryd.ntmps6
  go_wp2_with fail
  refine (r8Long_any A0 n0 c0 A1 n1 c1 _ b0 b1).mono ?_
  rintro e w1 ⟨rfl, HB⟩
  by_cases q : 1048576 < n0 ∨ 1048576 < n1
  · rw [decide_eq_true q]
    go_wp2_with fail
    go_ret
    exact ⟨rfl, HB⟩
  · rw [decide_eq_false q]
    have m0 : n0 ≤ 1048576 := by omega
    have m1 : n1 ≤ 1048576 := by omega
    have S0 := Lib.hid s0
    have S1 := Lib.hid s1
    have G0 := Lib.hid g0
    have G1 := Lib.hid g1
    have HT := Lib.hid hT
    clear q s0 s1 g0 g1 hT
    go_wp2_with fail
    refine (r8Dome_any A0 n0 c0 l0 _ m0 (S0.out.below HB) G0.out).mono ?_
    rintro e w2 ⟨⟨x, rfl, hx⟩, hb2⟩
    replace HB := HB.trans (hb2.mono HB.size)
    clear hb2
    have HX := Lib.hid hx
    obtain ⟨_, ⟨r0, r1⟩, _⟩ := hx
    have r2 : x.f1 ≤ 12000 := by omega
    go_wp2_with fail
    generalize hV : World.alloc _ _ = w3
    have hb3 := bel_alloc hV
    have xD := cells_alloc hV
    clear hV
    replace HB := HB.trans (hb3.mono HB.size)
    clear hb3
    have cD0 := xD.cell 0
    have cD1 := xD.cell 1
    have cD2 := xD.cell 2
    simp at cD0 cD1 cD2
    have cDl := xD.lt
    go_wp2_with fail
    refine (r8Wide_any A1 n1 c1 l1 0 60000 _ m1 (by omega) (by decide) (S1.out.below HB) G1.out).mono ?_
    rintro e w4 ⟨⟨a, rfl, a0, a1⟩, hb4⟩
    replace HB := HB.trans (hb4.mono HB.size)
    clear cD0 cD1 cD2 cDl
    replace xD := xD.below hb4 xD.lt
    have cD0 := xD.cell 0
    have cD1 := xD.cell 1
    have cD2 := xD.cell 2
    simp at cD0 cD1 cD2
    have cDl := xD.lt
    clear hb4
    have wa : IntKind.i64.wrap (6 * a) = 6 * a := by rw [IntKind.wrap_i64]; omega
    go_wp2_with fail
    refine (r8Wide_any A1 n1 c1 l1 2 45001 _ m1 (by omega) (by decide) (S1.out.below HB) G1.out).mono ?_
    rintro e w5 ⟨⟨h, rfl, h0, h1⟩, hb5⟩
    replace HB := HB.trans (hb5.mono HB.size)
    clear cD0 cD1 cD2 cDl
    replace xD := xD.below hb5 xD.lt
    have cD0 := xD.cell 0
    have cD1 := xD.cell 1
    have cD2 := xD.cell 2
    simp at cD0 cD1 cD2
    have cDl := xD.lt
    clear hb5
    have wh : IntKind.i64.wrap (2 * h) = 2 * h := by rw [IntKind.wrap_i64]; omega
    go_wp2_with fail
    refine (r8Wide_any A1 n1 c1 l1 4 60000 _ m1 (by omega) (by decide) (S1.out.below HB) G1.out).mono ?_
    rintro e w6 ⟨⟨b, rfl, b2, b3⟩, hb6⟩
    replace HB := HB.trans (hb6.mono HB.size)
    clear cD0 cD1 cD2 cDl
    replace xD := xD.below hb6 xD.lt
    have cD0 := xD.cell 0
    have cD1 := xD.cell 1
    have cD2 := xD.cell 2
    simp at cD0 cD1 cD2
    have cDl := xD.lt
    clear hb6
    have wb : IntKind.i64.wrap (6 * b) = 6 * b := by rw [IntKind.wrap_i64]; omega
    have U := Lib.hid (show upB (6 * a) (2 * h) = true from upB_iff.2 ⟨⟨by omega, by omega⟩, by omega, by omega⟩)
    have V := Lib.hid (show upB (6 * b) 30000 = true from upB_iff.2 ⟨⟨by omega, by omega⟩, by decide, by decide⟩)
    have pb := ptV_bd (r := x.f1) (6 * a) (2 * h) (by omega) (by omega)
    have ph := pt_high (r := x.f1) (az := 6 * a) (alt := 2 * h) (by omega) (by omega) (by omega)
    have pl := pt_len (r := x.f1) (6 * a) (2 * h) r0 r2
    have DP := domP_is (x := x) (az := 6 * a) (alt := 2 * h) HX.out U.out
    have HL := Lib.hid (show lenV (ptV x.f1 (6 * a) (2 * h)) = iroot ((ptV x.f1 (6 * a) (2 * h)).f0 * (ptV x.f1 (6 * a) (2 * h)).f0 + (ptV x.f1 (6 * a) (2 * h)).f1 * (ptV x.f1 (6 * a) (2 * h)).f1 + (ptV x.f1 (6 * a) (2 * h)).f2 * (ptV x.f1 (6 * a) (2 * h)).f2) from rfl)
    obtain ⟨P, hP⟩ : ∃ P, ptV x.f1 (6 * a) (2 * h) = P := ⟨_, rfl⟩
    have HP := Lib.hid hP
    rw [hP] at pb ph pl DP HL
    have DPH := Lib.hid DP
    clear hP DP
    obtain ⟨⟨p1, p2⟩, ⟨p3, p4⟩, p5, p6⟩ := pb
    obtain ⟨pl1, pl2⟩ := pl
    go_wp2_with fail
    refine (DPH.out _ (HT.out.below HB)).mono ?_
    rintro e w7 ⟨rfl, hb7⟩
    replace HB := HB.trans (hb7.mono HB.size)
    clear cD0 cD1 cD2 cDl
    replace xD := xD.below hb7 xD.lt
    have cD0 := xD.cell 0
    have cD1 := xD.cell 1
    have cD2 := xD.cell 2
    simp at cD0 cD1 cD2
    have cDl := xD.lt
    clear hb7
    go_wp2_with fail
    generalize hV : World.alloc _ _ = w8
    have hb8 := bel_alloc hV
    have xP := cells_alloc hV
    clear hV
    replace HB := HB.trans (hb8.mono HB.size)
    clear cD0 cD1 cD2 cDl
    replace xD := xD.below hb8 xD.lt
    have cD0 := xD.cell 0
    have cD1 := xD.cell 1
    have cD2 := xD.cell 2
    simp at cD0 cD1 cD2
    have cDl := xD.lt
    clear hb8
    have cP0 := xP.cell 0
    have cP1 := xP.cell 1
    have cP2 := xP.cell 2
    simp at cP0 cP1 cP2
    have cPl := xP.lt
    have mx := spot_sq (x := P.f0) (by omega) (by omega)
    have my := spot_sq (x := P.f1) (by omega) (by omega)
    have mz := spot_sq (x := P.f2) (by omega) (by omega)
    obtain ⟨mx0, mx1⟩ := mx
    obtain ⟨my0, my1⟩ := my
    obtain ⟨mz0, mz1⟩ := mz
    have np1 : ¬ P.f0 < -30001 := by omega
    have np2 : ¬ 30001 < P.f0 := by omega
    have np3 : ¬ P.f1 < -30001 := by omega
    have np4 : ¬ 30001 < P.f1 := by omega
    have np5 : ¬ P.f2 < -1 := by omega
    have np6 : ¬ 30001 < P.f2 := by omega
    go_wp2_with fail
    rw [w64_in (x := P.f0 * P.f0) (by omega), w64_in (x := P.f1 * P.f1) (by omega), w64_in (x := P.f2 * P.f2) (by omega), w64_in (x := P.f0 * P.f0 + P.f1 * P.f1) (by omega), w64_in (x := P.f0 * P.f0 + P.f1 * P.f1 + P.f2 * P.f2) (by omega)]
    refine (specRootOf_eq (P.f0 * P.f0 + P.f1 * P.f1 + P.f2 * P.f2) (by omega) _).mono ?_
    rintro e w9 ⟨rfl, rfl⟩
    rw [← HL.out]
    obtain ⟨far, hfar⟩ : ∃ f, lenV P = f := ⟨_, rfl⟩
    rw [hfar] at pl1 pl2 ⊢
    have FAR := Lib.hid hfar
    clear hfar np1 np2 np3 np4 np5 np6 mx0 mx1 my0 my1 mz0 mz1
    clear cP0 cP1 cP2 cPl
    clear xP
    obtain ⟨d, hd⟩ : ∃ d, arcOn x.f1 (sepV (dirV (6 * a) (2 * h)) (dirV (6 * b) 30000)) = d := ⟨_, rfl⟩
    have hd0 : 0 ≤ d := by rw [← hd]; have s := sepV_bd (dirV (6 * a) (2 * h)) (dirV (6 * b) 30000); exact divr_nonneg (by decide) (arc_bd (r := x.f1) (d := sepV (dirV (6 * a) (2 * h)) (dirV (6 * b) 30000)) (by omega) (by omega) s.1 s.2).2.1
    have HD := Lib.hid hd
    have HD2 := Lib.hid (show arcOn x.f1 (sepV (dirV (6 * b) 30000) (dirV (6 * a) (2 * h))) = d by rw [sep_symm]; exact hd)
    clear hd
    go_wp2_with fail
    refine (arc_is HX.out U.out V.out _ (HT.out.below HB) HD.out).mono ?_
    rintro e w10 ⟨rfl, hb10⟩
    replace HB := HB.trans (hb10.mono HB.size)
    clear cD0 cD1 cD2 cDl
    replace xD := xD.below hb10 xD.lt
    have cD0 := xD.cell 0
    have cD1 := xD.cell 1
    have cD2 := xD.cell 2
    simp at cD0 cD1 cD2
    have cDl := xD.lt
    clear hb10
    go_wp2_with fail
    refine (arc_is HX.out V.out U.out _ (HT.out.below HB) HD2.out).mono ?_
    rintro e w11 ⟨rfl, hb11⟩
    replace HB := HB.trans (hb11.mono HB.size)
    clear cD0 cD1 cD2 cDl
    replace xD := xD.below hb11 xD.lt
    have cD0 := xD.cell 0
    have cD1 := xD.cell 1
    have cD2 := xD.cell 2
    simp at cD0 cD1 cD2
    have cDl := xD.lt
    clear hb11
    have HD3 := Lib.hid (show arcOn x.f1 (sepV (dirV (6 * a) (2 * h)) (dirV (6 * a) (2 * h))) = 0 by rw [sep_self]; unfold arcOn; rw [Int.mul_zero, Int.zero_mul]; decide)
    go_wp2_with fail
    refine (arc_is HX.out U.out U.out _ (HT.out.below HB) HD3.out).mono ?_
    rintro e w12 ⟨rfl, hb12⟩
    replace HB := HB.trans (hb12.mono HB.size)
    clear cD0 cD1 cD2 cDl
    replace xD := xD.below hb12 xD.lt
    have cD0 := xD.cell 0
    have cD1 := xD.cell 1
    have cD2 := xD.cell 2
    simp at cD0 cD1 cD2
    have cDl := xD.lt
    clear hb12
    obtain ⟨u, hu⟩ : ∃ u, viewA x.f1 ⟨0, 0, 0⟩ (6 * a) (2 * h) = u := ⟨_, rfl⟩
    obtain ⟨v, hv⟩ : ∃ v, viewB x.f1 ⟨0, 0, 0⟩ (6 * a) (2 * h) = v := ⟨_, rfl⟩
    have VN := view_near (r := x.f1) (6 * a) (2 * h) r0 r2
    unfold errV at VN
    rw [hu, hv] at VN
    obtain ⟨vn1, vn2⟩ := VN
    have v0 := angB_up (viewV x.f1 ⟨0, 0, 0⟩ (6 * a) (2 * h))
    have v1 : -90000 ≤ v ∧ v ≤ 90000 := by rw [← hv]; exact v0
    have u1 : 0 ≤ u ∧ u ≤ 359999 := by rw [← hu]; exact nrm_bd _
    have HU := Lib.hid hu
    have HV := Lib.hid hv
    have HW := Lib.hid (show lenV (viewV x.f1 ⟨0, 0, 0⟩ (6 * a) (2 * h)) = far by rw [viewV_zero, HP.out]; exact FAR.out)
    have V1 := Lib.hid v1
    have U1 := Lib.hid u1
    have VN2 := Lib.hid vn2
    clear hu hv v0 v1 u1 vn2
    obtain ⟨ap, hap⟩ : ∃ s, sepV (dirV (6 * a) (2 * h)) (dirV u v) = s := ⟨_, rfl⟩
    rw [hap] at vn1
    have AP := Lib.hid hap
    clear hap
    have VZ := Lib.hid (show Vb 30000 (⟨0, 0, 0⟩ : VectorD) from ⟨⟨by decide, by decide⟩, ⟨by decide, by decide⟩, by decide, by decide⟩)
    go_wp2_with fail
    refine (view_is (s := ⟨0, 0, 0⟩) HX.out U.out (seat_mid HX.out) VZ.out _ (HT.out.below HB) HU.out HV.out HW.out).mono ?_
    rintro e w13 ⟨rfl, hb13⟩
    replace HB := HB.trans (hb13.mono HB.size)
    clear cD0 cD1 cD2 cDl
    replace xD := xD.below hb13 xD.lt
    have cD0 := xD.cell 0
    have cD1 := xD.cell 1
    have cD2 := xD.cell 2
    simp at cD0 cD1 cD2
    have cDl := xD.lt
    clear hb13
    obtain ⟨wo, hwo⟩ : ∃ v, worstV x.f1 ⟨0, 0, 0⟩ 45000 = v := ⟨_, rfl⟩
    have wo1 : wo ≤ 100 := by rw [← hwo]; exact worst_le r0 r2
    have WO := Lib.hid hwo
    clear hwo
    go_wp2_with fail
    refine (worst_is (s := ⟨0, 0, 0⟩) HX.out (by decide) (seat_mid HX.out) VZ.out _ (HT.out.below HB) WO.out).mono ?_
    rintro e w14 ⟨rfl, hb14⟩
    replace HB := HB.trans (hb14.mono HB.size)
    clear cD0 cD1 cD2 cDl
    replace xD := xD.below hb14 xD.lt
    have cD0 := xD.cell 0
    have cD1 := xD.cell 1
    have cD2 := xD.cell 2
    simp at cD0 cD1 cD2
    have cDl := xD.lt
    clear hb14
    have ab : iabs (far - x.f1) ≤ 4 := by unfold iabs; split <;> omega
    have wf : IntKind.i64.wrap (far - x.f1) = far - x.f1 := by rw [IntKind.wrap_i64]; omega
    have nl1 : ¬ 4 < iabs (far - x.f1) := by omega
    have nl2 : ¬ d < 0 := by omega
    have nl3 : ¬ 100 < ap := by omega
    have nl4 : ¬ 100 < wo := by omega
    have ABS := fun W => r8Abs_eq (far - x.f1) W (by omega)
    obtain ⟨ia, hia⟩ : ∃ t, iabs (far - x.f1) = t := ⟨_, rfl⟩
    rw [hia] at nl1 ab
    simp only [hia] at ABS
    have ABH := Lib.hid ABS
    clear hia ABS
    go_wp2_with fail
    refine (ABH.out _).mono ?_
    rintro e wz ⟨rfl, rfl⟩
    go_wp2_with fail
    refine (r8Apart_is (6 * a) (2 * h) u v ap ⟨by omega, by omega⟩ ⟨by omega, by omega⟩ ⟨by have := U1.out; omega, by have := U1.out; omega⟩ V1.out (ok_of (by have := VN2.out; omega)) AP.out _).mono ?_
    rintro e w15 ⟨rfl, hb15⟩
    replace HB := HB.trans (hb15.mono HB.size)
    clear cD0 cD1 cD2 cDl
    replace xD := xD.below hb15 xD.lt
    have cD0 := xD.cell 0
    have cD1 := xD.cell 1
    have cD2 := xD.cell 2
    simp at cD0 cD1 cD2
    have cDl := xD.lt
    clear hb15
    go_wp2_with fail
    refine (ABH.out _).mono ?_
    rintro e wz ⟨rfl, rfl⟩
    have td : x.f1.tdiv 3 = x.f1 / 3 := Int.tdiv_eq_ediv_of_nonneg (by omega)
    go_wp2_with fail
    generalize hV : World.alloc _ _ = w16
    have hb16 := bel_alloc hV
    have xS := cells_alloc hV
    clear hV
    replace HB := HB.trans (hb16.mono HB.size)
    clear cD0 cD1 cD2 cDl
    replace xD := xD.below hb16 xD.lt
    have cD0 := xD.cell 0
    have cD1 := xD.cell 1
    have cD2 := xD.cell 2
    simp at cD0 cD1 cD2
    have cDl := xD.lt
    clear hb16
    have cS0 := xS.cell 0
    have cS1 := xS.cell 1
    have cS2 := xS.cell 2
    simp at cS0 cS1 cS2
    have cSl := xS.lt
    clear td
    obtain ⟨way, hway⟩ : ∃ v, lenV (viewV x.f1 ⟨x.f1 / 3, 0, 0⟩ (6 * a) (2 * h)) = v := ⟨_, rfl⟩
    have wy := way_bd (r := x.f1) (6 * a) (2 * h) r0 r2
    rw [hway] at wy
    obtain ⟨wy1, wy2⟩ := wy
    have WAY := Lib.hid hway
    clear hway
    have VT := Lib.hid (show Vb 30000 (⟨x.f1 / 3, 0, 0⟩ : VectorD) from ⟨⟨by show -30000 ≤ x.f1 / 3; omega, by show x.f1 / 3 ≤ 30000; omega⟩, ⟨show (-30000 : Int) ≤ 0 by decide, show (0 : Int) ≤ 30000 by decide⟩, show (-30000 : Int) ≤ 0 by decide, show (0 : Int) ≤ 30000 by decide⟩)
    go_wp2_with fail
    refine (view_is (s := ⟨x.f1 / 3, 0, 0⟩) HX.out U.out (seat_third HX.out) VT.out _ (HT.out.below HB) rfl rfl WAY.out).mono ?_
    rintro e w17 ⟨rfl, hb17⟩
    replace HB := HB.trans (hb17.mono HB.size)
    clear cD0 cD1 cD2 cDl
    replace xD := xD.below hb17 xD.lt
    have cD0 := xD.cell 0
    have cD1 := xD.cell 1
    have cD2 := xD.cell 2
    simp at cD0 cD1 cD2
    have cDl := xD.lt
    clear cS0 cS1 cS2 cSl
    replace xS := xS.below hb17 xS.lt
    have cS0 := xS.cell 0
    have cS1 := xS.cell 1
    have cS2 := xS.cell 2
    simp at cS0 cS1 cS2
    have cSl := xS.lt
    clear hb17
    have t1 : (x.f1 * 2).tdiv 3 = x.f1 * 2 / 3 := Int.tdiv_eq_ediv_of_nonneg (by omega)
    have t2 : (x.f1 * 4).tdiv 3 = x.f1 * 4 / 3 := Int.tdiv_eq_ediv_of_nonneg (by omega)
    have w1 : IntKind.i64.wrap (x.f1 * 2) = x.f1 * 2 := by rw [IntKind.wrap_i64]; omega
    have w2' : IntKind.i64.wrap (x.f1 * 4) = x.f1 * 4 := by rw [IntKind.wrap_i64]; omega
    go_wp2_with fail
    go_ret
    exact ⟨rfl, HB⟩
end Go.Proofs.YthjllledhcfnhaaDoor
