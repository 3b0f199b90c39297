/- ViewFrom. Conditions: the arguments are int64; the sizes of strings; the variable sines holds its table. -/
import Derived.Test.YthjllledhcfnhaaDoorDomeTurn
namespace Go.Ks
/-- a seat inside a dome of radius r -/
def seatB (r : Int) (s : VectorD) : Bool := inB s.f0 (-(r - 1)) (r - 1) && inB s.f1 (-(r - 1)) (r - 1) && inB s.f2 (-(r - 1)) (r - 1) && decide (s.f0 * s.f0 + s.f1 * s.f1 + s.f2 * s.f2 < (r - 1) * (r - 1))
theorem seat_split (r : Int) (s : VectorD) : (inB s.f0 (-(r - 1)) (r - 1) = false ∧ seatB r s = false) ∨ (inB s.f0 (-(r - 1)) (r - 1) = true ∧ inB s.f1 (-(r - 1)) (r - 1) = false ∧ seatB r s = false) ∨ (inB s.f0 (-(r - 1)) (r - 1) = true ∧ inB s.f1 (-(r - 1)) (r - 1) = true ∧ inB s.f2 (-(r - 1)) (r - 1) = false ∧ seatB r s = false) ∨
    (inB s.f0 (-(r - 1)) (r - 1) = true ∧ inB s.f1 (-(r - 1)) (r - 1) = true ∧ inB s.f2 (-(r - 1)) (r - 1) = true ∧ seatB r s = decide (s.f0 * s.f0 + s.f1 * s.f1 + s.f2 * s.f2 < (r - 1) * (r - 1))) := by
  unfold seatB
  cases h0 : inB s.f0 (-(r - 1)) (r - 1)
  · exact .inl ⟨rfl, rfl⟩
  refine .inr ?_
  cases h1 : inB s.f1 (-(r - 1)) (r - 1)
  · exact .inl ⟨rfl, rfl, rfl⟩
  refine .inr ?_
  cases h2 : inB s.f2 (-(r - 1)) (r - 1)
  · exact .inl ⟨rfl, rfl, rfl, rfl⟩
  · exact .inr ⟨rfl, rfl, rfl, rfl⟩
theorem seat_vb {r : Int} {s : VectorD} (h : seatB r s = true) (hr : r ≤ 30000) : Vb 30000 s := by
  rcases seat_split r s with ⟨_, E⟩ | ⟨_, _, E⟩ | ⟨_, _, _, E⟩ | ⟨h0, h1, h2, _⟩
  · rw [E] at h; cases h
  · rw [E] at h; cases h
  · rw [E] at h; cases h
  · have := inB_iff.1 h0
    have := inB_iff.1 h1
    have := inB_iff.1 h2
    exact ⟨by omega, by omega, by omega⟩
theorem sq_small {a : Int} (h1 : -30000 ≤ a) (h2 : a ≤ 30000) : -900000000 ≤ a * a ∧ a * a ≤ 900000000 := by
  have := mul_bd2 (a := a) (b := a) (m := 30000) (n := 30000) h1 h2 h1 h2 (by omega)
  omega
end Go.Ks
namespace Go.Proofs.YthjllledhcfnhaaDoor
open Go.RowKit Go.Lib Go.Ks
theorem blk_alloc2 {w w' : World} {o : Obj} {cs : Array Value} {t : TypeId} (h : (w.alloc o).alloc (.cells cs t) = w') : Blk w' (w.heap.size + 1) t cs := by
  have q := blk_alloc h
  simpa using q
theorem ret_tup4' {a a' b b' c c' d d' : Int} (h : a = a') (h' : b = b') (h'' : c = c') (h3 : d = d') : Ending.returned (.tuple #[.int .i64 a, .int .i64 b, .int .i64 c, .int .i64 d]) = .returned (.tuple #[.int .i64 a', .int .i64 b', .int .i64 c', .int .i64 d']) := by rw [h, h', h'', h3]
set_option maxRecDepth 100000 in
set_option maxHeartbeats 4000000 in
theorem isInside_any  (x : DomeD) (s : VectorD) (w : World) (hr : 1000 ≤ x.f1 ∧ x.f1 ≤ 30000) :
    Calls Tryd.prog 91 #[.agg #[.string x.f0, .int .i64 x.f1, .int .i64 x.f2], .agg #[.int .i64 s.f0, .int .i64 s.f1, .int .i64 s.f2]] w fun e w' => e = .returned (.bool (seatB x.f1 s)) ∧ Below w.heap.size w w' := by
  obtain ⟨r0, r1⟩ := hr
  rcases seat_split x.f1 s with ⟨i0, E⟩ | ⟨i0, i1, E⟩ | ⟨i0, i1, i2, E⟩ | ⟨i0, i1, i2, E⟩
  · have EE := Lib.hid E
    clear E
    go_enter Tryd.func91, Tryd.ntmps91
    go_wp2_with fail
    generalize hW : World.alloc (World.alloc w _) _ = w1
    have HB : Below w.heap.size w w1 := by rw [← hW]; repeat (first | with_reducible exact Below.refl _ _ | with_reducible assumption | with_reducible refine Below.setCell ?_ (by simp <;> omega) _ | with_reducible refine Below.alloc ?_ (by simp <;> omega) _ | with_reducible refine Below.drew ?_)
    have b0 : Blk w1 w.heap.size 54 #[.string x.f0, .int .i64 x.f1, .int .i64 x.f2] := by rw [← hW]; exact (Blk.new w _ _).alloc _
    have x0 : Blk w1 (w.heap.size + 1) 58 #[.int .i64 s.f0, .int .i64 s.f1, .int .i64 s.f2] := by
      have h := blk_alloc hW
      simpa using h
    clear hW
    have c0 := b0.cell 0
    have c1 := b0.cell 1
    have c2 := b0.cell 2
    simp at c0 c1 c2
    have cl := b0.lt
    have d0 := x0.cell 0
    have d1 := x0.cell 1
    have d2 := x0.cell 2
    simp at d0 d1 d2
    have dl := x0.lt
    refine (within_eq _ _ _ _).mono ?_
    rintro e w1 ⟨rfl, rfl⟩
    go_wp2_with fail
    go_ret
    exact ⟨ret_bool EE.out.symm, HB⟩
  · have EE := Lib.hid E
    clear E
    go_enter Tryd.func91, Tryd.ntmps91
    go_wp2_with fail
    generalize hW : World.alloc (World.alloc w _) _ = w1
    have HB : Below w.heap.size w w1 := by rw [← hW]; repeat (first | with_reducible exact Below.refl _ _ | with_reducible assumption | with_reducible refine Below.setCell ?_ (by simp <;> omega) _ | with_reducible refine Below.alloc ?_ (by simp <;> omega) _ | with_reducible refine Below.drew ?_)
    have b0 : Blk w1 w.heap.size 54 #[.string x.f0, .int .i64 x.f1, .int .i64 x.f2] := by rw [← hW]; exact (Blk.new w _ _).alloc _
    have x0 : Blk w1 (w.heap.size + 1) 58 #[.int .i64 s.f0, .int .i64 s.f1, .int .i64 s.f2] := by
      have h := blk_alloc hW
      simpa using h
    clear hW
    have c0 := b0.cell 0
    have c1 := b0.cell 1
    have c2 := b0.cell 2
    simp at c0 c1 c2
    have cl := b0.lt
    have d0 := x0.cell 0
    have d1 := x0.cell 1
    have d2 := x0.cell 2
    simp at d0 d1 d2
    have dl := x0.lt
    refine (within_eq _ _ _ _).mono ?_
    rintro e w1 ⟨rfl, rfl⟩
    go_wp2_with fail
    refine (within_eq _ _ _ _).mono ?_
    rintro e w1 ⟨rfl, rfl⟩
    go_wp2_with fail
    go_ret
    exact ⟨ret_bool EE.out.symm, HB⟩
  · have EE := Lib.hid E
    clear E
    go_enter Tryd.func91, Tryd.ntmps91
    go_wp2_with fail
    generalize hW : World.alloc (World.alloc w _) _ = w1
    have HB : Below w.heap.size w w1 := by rw [← hW]; repeat (first | with_reducible exact Below.refl _ _ | with_reducible assumption | with_reducible refine Below.setCell ?_ (by simp <;> omega) _ | with_reducible refine Below.alloc ?_ (by simp <;> omega) _ | with_reducible refine Below.drew ?_)
    have b0 : Blk w1 w.heap.size 54 #[.string x.f0, .int .i64 x.f1, .int .i64 x.f2] := by rw [← hW]; exact (Blk.new w _ _).alloc _
    have x0 : Blk w1 (w.heap.size + 1) 58 #[.int .i64 s.f0, .int .i64 s.f1, .int .i64 s.f2] := by
      have h := blk_alloc hW
      simpa using h
    clear hW
    have c0 := b0.cell 0
    have c1 := b0.cell 1
    have c2 := b0.cell 2
    simp at c0 c1 c2
    have cl := b0.lt
    have d0 := x0.cell 0
    have d1 := x0.cell 1
    have d2 := x0.cell 2
    simp at d0 d1 d2
    have dl := x0.lt
    refine (within_eq _ _ _ _).mono ?_
    rintro e w1 ⟨rfl, rfl⟩
    go_wp2_with fail
    refine (within_eq _ _ _ _).mono ?_
    rintro e w1 ⟨rfl, rfl⟩
    go_wp2_with fail
    refine (within_eq _ _ _ _).mono ?_
    rintro e w1 ⟨rfl, rfl⟩
    go_wp2_with fail
    go_ret
    exact ⟨ret_bool EE.out.symm, HB⟩
  · have EE := Lib.hid E
    clear E
    obtain ⟨u0, u1⟩ := inB_iff.1 i0
    obtain ⟨u2, u3⟩ := inB_iff.1 i1
    obtain ⟨u4, u5⟩ := inB_iff.1 i2
    obtain ⟨q0, q1⟩ := sq_small (a := s.f0) (by omega) (by omega)
    obtain ⟨q2, q3⟩ := sq_small (a := s.f1) (by omega) (by omega)
    obtain ⟨q4, q5⟩ := sq_small (a := s.f2) (by omega) (by omega)
    obtain ⟨q6, q7⟩ := sq_small (a := x.f1 - 1) (by omega) (by omega)
    go_enter Tryd.func91, Tryd.ntmps91
    go_wp2_with fail
    generalize hW : World.alloc (World.alloc w _) _ = w1
    have HB : Below w.heap.size w w1 := by rw [← hW]; repeat (first | with_reducible exact Below.refl _ _ | with_reducible assumption | with_reducible refine Below.setCell ?_ (by simp <;> omega) _ | with_reducible refine Below.alloc ?_ (by simp <;> omega) _ | with_reducible refine Below.drew ?_)
    have b0 : Blk w1 w.heap.size 54 #[.string x.f0, .int .i64 x.f1, .int .i64 x.f2] := by rw [← hW]; exact (Blk.new w _ _).alloc _
    have x0 : Blk w1 (w.heap.size + 1) 58 #[.int .i64 s.f0, .int .i64 s.f1, .int .i64 s.f2] := by
      have h := blk_alloc hW
      simpa using h
    clear hW
    have c0 := b0.cell 0
    have c1 := b0.cell 1
    have c2 := b0.cell 2
    simp at c0 c1 c2
    have cl := b0.lt
    have d0 := x0.cell 0
    have d1 := x0.cell 1
    have d2 := x0.cell 2
    simp at d0 d1 d2
    have dl := x0.lt
    refine (within_eq _ _ _ _).mono ?_
    rintro e w1 ⟨rfl, rfl⟩
    go_wp2_with fail
    refine (within_eq _ _ _ _).mono ?_
    rintro e w1 ⟨rfl, rfl⟩
    go_wp2_with fail
    refine (within_eq _ _ _ _).mono ?_
    rintro e w1 ⟨rfl, rfl⟩
    go_wp2_with fail
    go_ret
    exact ⟨ret_bool EE.out.symm, HB⟩
set_option maxRecDepth 100000 in
set_option maxHeartbeats 4000000 in
theorem viewOf_any (x : DomeD) (s : VectorD) (az alt : Int) (w : World) (hr : 1000 ≤ x.f1 ∧ x.f1 ≤ 30000) (hs : Vb 30000 s) (ha : 0 ≤ az ∧ az ≤ 359999) (hl : I64 alt) (hT : Tab w) :
    Calls Tryd.prog 92 #[.agg #[.string x.f0, .int .i64 x.f1, .int .i64 x.f2], .agg #[.int .i64 s.f0, .int .i64 s.f1, .int .i64 s.f2], .int .i64 az, .int .i64 alt] w fun e w' => e = .returned (.agg #[.int .i64 (viewV x.f1 s az alt).f0, .int .i64 (viewV x.f1 s az alt).f1, .int .i64 (viewV x.f1 s az alt).f2]) ∧ Below w.heap.size w w' := by
  obtain ⟨⟨p0, p1⟩, ⟨p2, p3⟩, p4, p5⟩ := ptV_bd (r := x.f1) az alt (by omega) hr.2
  obtain ⟨⟨t0, t1⟩, ⟨t2, t3⟩, t4, t5⟩ := hs
  have HT := Lib.hid hT
  clear hT
  go_enter Tryd.func92, Tryd.ntmps92
  go_wp2_with fail
  generalize hW : World.alloc (World.alloc (World.alloc w _) _) _ = w1
  have HB : Below w.heap.size w w1 := by rw [← hW]; repeat (first | with_reducible exact Below.refl _ _ | with_reducible assumption | with_reducible refine Below.setCell ?_ (by simp <;> omega) _ | with_reducible refine Below.alloc ?_ (by simp <;> omega) _ | with_reducible refine Below.drew ?_)
  have x0 : Blk w1 (w.heap.size + 1) 58 #[.int .i64 s.f0, .int .i64 s.f1, .int .i64 s.f2] := by
    have h := (Blk.new (w.alloc (.cells #[.string x.f0, .int .i64 x.f1, .int .i64 x.f2] 54)) 58 #[.int .i64 s.f0, .int .i64 s.f1, .int .i64 s.f2]).alloc (.cells #[.int .i64 0, .int .i64 0, .int .i64 0] 58)
    rw [hW] at h
    simpa using h
  have r0 : Blk w1 (w.heap.size + 2) 58 #[.int .i64 0, .int .i64 0, .int .i64 0] := by
    have h := blk_alloc hW
    simpa using h
  clear hW
  refine (domePoint_any x az alt _ hr ha hl (HT.out.below HB)).mono ?_
  rintro e w2 ⟨rfl, hb2⟩
  replace HB := HB.trans (hb2.mono HB.size)
  replace x0 := x0.below hb2 x0.lt
  replace r0 := r0.below hb2 r0.lt
  have d0 := x0.cell 0
  have d1 := x0.cell 1
  have d2 := x0.cell 2
  simp at d0 d1 d2
  have dl := x0.lt
  have e0 := r0.cell 0
  have e1 := r0.cell 1
  have e2 := r0.cell 2
  simp at e0 e1 e2
  have el := r0.lt
  have eg0 := r0.frozen 0
  have eg1 := r0.frozen 1
  have eg2 := r0.frozen 2
  go_wp2_with fail
  generalize hV : World.alloc (World.setCell _ _ _) _ = w5
  have HB5 : Below w.heap.size w w5 := by rw [← hV]; repeat (first | with_reducible exact Below.refl _ _ | with_reducible assumption | with_reducible refine Below.setCell ?_ (by simp <;> omega) _ | with_reducible refine Below.alloc ?_ (by simp <;> omega) _ | with_reducible refine Below.drew ?_)
  have r5 : Blk w5 (w.heap.size + 1 + 1) 58 #[.int .i64 (viewV x.f1 s az alt).f0, .int .i64 (viewV x.f1 s az alt).f1, .int .i64 (viewV x.f1 s az alt).f2] := by rw [← hV]; exact (((r0.set_ 0 _).set_ 1 _).set_ 2 _).alloc _
  clear hV e0 e1 e2 el eg0 eg1 eg2
  have e0 := r5.cell 0
  have e1 := r5.cell 1
  have e2 := r5.cell 2
  simp at e0 e1 e2
  have el := r5.lt
  refine bodyPost_ret (v := .agg #[.int .i64 (viewV x.f1 s az alt).f0, .int .i64 (viewV x.f1 s az alt).f1, .int .i64 (viewV x.f1 s az alt).f2]) (by simp [results, Tryd.results92, go_sem, e0, e1, e2]) rfl ⟨rfl, HB5⟩
noncomputable def mVwA (x : DomeD) (s : VectorD) (az alt : Int) : Int := sel (domeB x) (upB az alt && seatB x.f1 s) (viewA x.f1 s az alt)
noncomputable def mVwB (x : DomeD) (s : VectorD) (az alt : Int) : Int := sel (domeB x) (upB az alt && seatB x.f1 s) (viewB x.f1 s az alt)
noncomputable def mVwL (x : DomeD) (s : VectorD) (az alt : Int) : Int := sel (domeB x) (upB az alt && seatB x.f1 s) (lenV (viewV x.f1 s az alt))
noncomputable def mVwC (x : DomeD) (s : VectorD) (az alt : Int) : Int := if domeB x then (if upB az alt then (if seatB x.f1 s then 0 else 6) else 2) else 1
section
variable {x : DomeD} {s : VectorD} {az alt : Int}
theorem mVw_no (h : domeB x = false) : mVwA x s az alt = 0 ∧ mVwB x s az alt = 0 ∧ mVwL x s az alt = 0 ∧ mVwC x s az alt = 1 := ⟨sel_no h _, sel_no h _, sel_no h _, by unfold mVwC; rw [h]; rfl⟩
theorem mVw_out (h : domeB x = true) (h' : upB az alt = false) : mVwA x s az alt = 0 ∧ mVwB x s az alt = 0 ∧ mVwL x s az alt = 0 ∧ mVwC x s az alt = 2 := by
  have q : (upB az alt && seatB x.f1 s) = false := by rw [h', Bool.false_and]
  exact ⟨sel_out q _, sel_out q _, sel_out q _, by unfold mVwC; rw [h, h']; rfl⟩
theorem mVw_off (h : domeB x = true) (h' : upB az alt = true) (h'' : seatB x.f1 s = false) : mVwA x s az alt = 0 ∧ mVwB x s az alt = 0 ∧ mVwL x s az alt = 0 ∧ mVwC x s az alt = 6 := by
  have q : (upB az alt && seatB x.f1 s) = false := by rw [h'', Bool.and_false]
  exact ⟨sel_out q _, sel_out q _, sel_out q _, by unfold mVwC; rw [h, h', h'']; rfl⟩
theorem mVw_in (h : domeB x = true) (h' : upB az alt = true) (h'' : seatB x.f1 s = true) : mVwA x s az alt = viewA x.f1 s az alt ∧ mVwB x s az alt = viewB x.f1 s az alt ∧ mVwL x s az alt = lenV (viewV x.f1 s az alt) ∧ mVwC x s az alt = 0 := by
  have q : (upB az alt && seatB x.f1 s) = true := by rw [h', h'', Bool.and_true]
  exact ⟨sel_in h q _, sel_in h q _, sel_in h q _, by unfold mVwC; rw [h, h', h'']; rfl⟩
end
set_option maxRecDepth 100000 in
set_option maxHeartbeats 4000000 in
theorem implViewFrom_any (x0 : ByteArray) (x1 x2 s0 s1 s2 : Int) (az alt : Int) (w : World) (y0 : x0.size ≤ 9223372036854775807) (_y1 : -9223372036854775808 ≤ x1 ∧ x1 ≤ 9223372036854775807) (_y2 : -9223372036854775808 ≤ x2 ∧ x2 ≤ 9223372036854775807) (_z0 : -9223372036854775808 ≤ s0 ∧ s0 ≤ 9223372036854775807) (_z1 : -9223372036854775808 ≤ s1 ∧ s1 ≤ 9223372036854775807) (_z2 : -9223372036854775808 ≤ s2 ∧ s2 ≤ 9223372036854775807) (_ha : -9223372036854775808 ≤ az ∧ az ≤ 9223372036854775807) (hl : -9223372036854775808 ≤ alt ∧ alt ≤ 9223372036854775807) (hT : Tab w) :
    Calls Tryd.prog 36 #[.agg #[.string x0, .int .i64 x1, .int .i64 x2], .agg #[.int .i64 s0, .int .i64 s1, .int .i64 s2], .int .i64 az, .int .i64 alt] w fun e w' => e = .returned (.tuple #[.int .i64 (mVwA ⟨x0, x1, x2⟩ ⟨s0, s1, s2⟩ az alt), .int .i64 (mVwB ⟨x0, x1, x2⟩ ⟨s0, s1, s2⟩ az alt), .int .i64 (mVwL ⟨x0, x1, x2⟩ ⟨s0, s1, s2⟩ az alt), .int .i64 (mVwC ⟨x0, x1, x2⟩ ⟨s0, s1, s2⟩ az alt)]) ∧ Below w.heap.size w w' := by
  obtain ⟨x, hx⟩ : ∃ x : DomeD, x = ⟨x0, x1, x2⟩ := ⟨_, rfl⟩
  have OKP : x.f0.size ≤ 9223372036854775807 := by rw [hx]; exact y0
  obtain ⟨s, hs⟩ : ∃ s : VectorD, s = ⟨s0, s1, s2⟩ := ⟨_, rfl⟩
  rw [← hx, ← hs]
  have hagg : (Value.agg #[.string x0, .int .i64 x1, .int .i64 x2]) = .agg #[.string x.f0, .int .i64 x.f1, .int .i64 x.f2] := by rw [hx]
  have hags : (Value.agg #[.int .i64 s0, .int .i64 s1, .int .i64 s2]) = .agg #[.int .i64 s.f0, .int .i64 s.f1, .int .i64 s.f2] := by rw [hs]
  rw [hagg, hags]
  clear hagg hags hx hs y0 _y1 _y2 _z0 _z1 _z2
  have HT := Lib.hid hT
  clear hT
  go_enter Tryd.func36, Tryd.ntmps36
  go_wp2_with fail
  generalize hW : World.alloc (World.alloc w _) _ = w1
  have HB : Below w.heap.size w w1 := by rw [← hW]; repeat (first | with_reducible exact Below.refl _ _ | with_reducible assumption | with_reducible refine Below.setCell ?_ (by simp <;> omega) _ | with_reducible refine Below.alloc ?_ (by simp <;> omega) _ | with_reducible refine Below.drew ?_)
  have b0 : Blk w1 w.heap.size 54 #[.string x.f0, .int .i64 x.f1, .int .i64 x.f2] := by rw [← hW]; exact (Blk.new w _ _).alloc _
  have x0 : Blk w1 (w.heap.size + 1) 58 #[.int .i64 s.f0, .int .i64 s.f1, .int .i64 s.f2] := by
    have h := blk_alloc hW
    simpa using h
  clear hW
  refine (validDome_any x _ OKP).mono ?_
  rintro e w2 ⟨rfl, hb2⟩
  replace HB := HB.trans (hb2.mono HB.size)
  replace b0 := b0.below hb2 b0.lt
  replace x0 := x0.below hb2 x0.lt
  rcases b_cases (domeB x) with ok | ok
  · have E := Lib.hid (mVw_no (s := s) (az := az) (alt := alt) ok)
    go_wp2_with fail
    (try simp only [Exit.inBlock, Exit.then])
    refine bodyPost_ret (results_t4 rfl _ _ _) rfl ?_
    exact ⟨ret_tup4' E.out.1.symm E.out.2.1.symm E.out.2.2.1.symm E.out.2.2.2.symm, HB⟩
  go_wp2_with fail
  refine (isDomeUp_eq _ _ _).mono ?_
  rintro e w1 ⟨rfl, rfl⟩
  rcases b_cases (upB az alt) with up | up
  · have E := Lib.hid (mVw_out (s := s) ok up)
    go_wp2_with fail
    (try simp only [Exit.inBlock, Exit.then])
    refine bodyPost_ret (results_t4 rfl _ _ _) rfl ?_
    exact ⟨ret_tup4' E.out.1.symm E.out.2.1.symm E.out.2.2.1.symm E.out.2.2.2.symm, HB⟩
  have R := dome_nums ok
  have U := upB_iff.1 up
  have c0 := b0.cell 0
  have c1 := b0.cell 1
  have c2 := b0.cell 2
  simp at c0 c1 c2
  have cl := b0.lt
  have d0 := x0.cell 0
  have d1 := x0.cell 1
  have d2 := x0.cell 2
  simp at d0 d1 d2
  have dl := x0.lt
  go_wp2_with fail
  refine (isInside_any x s _ R.1).mono ?_
  rintro e w3 ⟨rfl, hb3⟩
  replace HB := HB.trans (hb3.mono HB.size)
  replace b0 := b0.below hb3 b0.lt
  replace x0 := x0.below hb3 x0.lt
  rcases b_cases (seatB x.f1 s) with sb | sb
  · have E := Lib.hid (mVw_off ok up sb)
    go_wp2_with fail
    (try simp only [Exit.inBlock, Exit.then])
    refine bodyPost_ret (results_t4 rfl _ _ _) rfl ?_
    exact ⟨ret_tup4' E.out.1.symm E.out.2.1.symm E.out.2.2.1.symm E.out.2.2.2.symm, HB⟩
  · have E := Lib.hid (mVw_in ok up sb)
    have V := seat_vb sb R.1.2
    have hv := viewV_bd (s := s) az alt (by omega) R.1.2 V
    have hv2 := hv.mono (n := 2000000) (by omega)
    have hv8 := hv.mono (n := 8000000) (by omega)
    clear c0 c1 c2 cl d0 d1 d2 dl
    have c0 := b0.cell 0
    have c1 := b0.cell 1
    have c2 := b0.cell 2
    simp at c0 c1 c2
    have cl := b0.lt
    have d0 := x0.cell 0
    have d1 := x0.cell 1
    have d2 := x0.cell 2
    simp at d0 d1 d2
    have dl := x0.lt
    go_wp2_with fail
    refine (viewOf_any x s az alt _ R.1 V U.1 hl (HT.out.below HB)).mono ?_
    rintro e w4 ⟨rfl, hb4⟩
    replace HB := HB.trans (hb4.mono HB.size)
    replace b0 := b0.below hb4 b0.lt
    replace x0 := x0.below hb4 x0.lt
    go_wp2_with fail
    generalize hV : World.alloc _ _ = w5
    have hb5 := below_alloc hV
    have v0 := blk_alloc hV
    clear hV
    replace HB := HB.trans (hb5.mono HB.size)
    refine (domeAngles_any (viewV x.f1 s az alt) hv2 _ (HT.out.below HB)).mono ?_
    rintro e w6 ⟨rfl, hb6⟩
    replace HB := HB.trans (hb6.mono HB.size)
    replace v0 := v0.below hb6 v0.lt
    have f0 := v0.cell 0
    have f1 := v0.cell 1
    have f2 := v0.cell 2
    simp at f0 f1 f2
    have fl := v0.lt
    go_wp2_with fail
    refine (lengthOf_any (viewV x.f1 s az alt) hv8 _).mono ?_
    rintro e w7 ⟨rfl, hb7⟩
    replace HB := HB.trans (hb7.mono HB.size)
    go_wp2_with fail
    (try simp only [Exit.inBlock, Exit.then])
    refine bodyPost_ret (results_t4 rfl _ _ _) rfl ?_
    exact ⟨ret_tup4' E.out.1.symm E.out.2.1.symm E.out.2.2.1.symm E.out.2.2.2.symm, HB⟩
end Go.Proofs.YthjllledhcfnhaaDoor
