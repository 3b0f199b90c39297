/- Points of a dome. Conditions: the arguments are int64; the sizes of strings; the variable sines holds its table. -/
import Derived.Test.YthjllledhcfnhaaDoorDomeSpec
namespace Go.Ks
/-- an answer with two conditions; its code -/
def sel (b c : Bool) (v : Int) : Int := if b && c then v else 0
def code2 (b c : Bool) : Int := if b then (if c then 0 else 2) else 1
theorem sel_no {b c : Bool} (h : b = false) (v : Int) : sel b c v = 0 := by rw [h]; rfl
theorem sel_out {b c : Bool} (h : c = false) (v : Int) : sel b c v = 0 := by unfold sel; rw [h, Bool.and_false]; rfl
theorem sel_in {b c : Bool} (h : b = true) (h' : c = true) (v : Int) : sel b c v = v := by rw [h, h']; rfl
theorem code2_no {b c : Bool} (h : b = false) : code2 b c = 1 := by rw [h]; rfl
theorem code2_out {b c : Bool} (h : b = true) (h' : c = false) : code2 b c = 2 := by rw [h, h']; rfl
theorem code2_in {b c : Bool} (h : b = true) (h' : c = true) : code2 b c = 0 := by rw [h, h']; rfl
theorem b_cases (b : Bool) : b = false ∨ b = true := by cases b <;> simp
end Go.Ks
namespace Go.Proofs.YthjllledhcfnhaaDoor
open Go.RowKit Go.Lib Go.Ks
set_option maxHeartbeats 1000000 in
theorem validDome_any (x : DomeD) (w : World) (hok : x.f0.size ≤ 9223372036854775807) :
    Calls Tryd.prog 85 #[.agg #[.string x.f0, .int .i64 x.f1, .int .i64 x.f2]] w fun e w' => e = .returned (.bool (domeB x)) ∧ Below w.heap.size w w' := by
  rcases dome_split x with ⟨a0, E⟩ | ⟨a0, a1, E⟩ | ⟨a0, a1, E⟩
  all_goals
    have EE := Lib.hid E
    clear E
    go_enter Tryd.func85, Tryd.ntmps85
    go_wp2_with (first | (go_at_call 125; refine (isName_eq _ (by assumption) _).mono ?_; rintro e w' ⟨rfl, rfl⟩) | (go_at_call 66; refine (within_eq _ _ _ _).mono ?_; rintro e w' ⟨rfl, rfl⟩))
    go_ret
    refine ⟨ret_bool EE.out.symm, ?_⟩
    repeat (first | with_reducible exact Below.refl _ _ | with_reducible assumption | with_reducible refine Below.setCell ?_ (by simp <;> omega) _ | with_reducible refine Below.alloc ?_ (by simp <;> omega) _ | with_reducible refine Below.drew ?_)
theorem ptV_parts {r : Int} (az alt : Int) (h0 : 1000 ≤ r) (h1 : r ≤ 30000) : (-30000000000 ≤ r * (dirV (nrm (90000 - az)) alt).f0 ∧ r * (dirV (nrm (90000 - az)) alt).f0 ≤ 30000000000) ∧ (-30000000000 ≤ r * (dirV (nrm (90000 - az)) alt).f1 ∧ r * (dirV (nrm (90000 - az)) alt).f1 ≤ 30000000000) ∧ (-30000000000 ≤ r * (dirV (nrm (90000 - az)) alt).f2 ∧ r * (dirV (nrm (90000 - az)) alt).f2 ≤ 30000000000) := by
  obtain ⟨d0, d1, d2⟩ := dirV_bd (nrm (90000 - az)) alt
  exact ⟨r_mul (by omega) h1 d0, r_mul (by omega) h1 d1, r_mul (by omega) h1 d2⟩
set_option maxRecDepth 100000 in
set_option maxHeartbeats 2000000 in
theorem domeVector_any (az alt : Int) (w : World) (ha : 0 ≤ az ∧ az ≤ 359999) (hl : I64 alt) (hT : Tab w) :
    Calls Tryd.prog 128 #[.int .i64 az, .int .i64 alt] w fun e w' => e = .returned (.agg #[.int .i64 (dirV (nrm (90000 - az)) alt).f0, .int .i64 (dirV (nrm (90000 - az)) alt).f1, .int .i64 (dirV (nrm (90000 - az)) alt).f2]) ∧ Below w.heap.size w w' := by
  obtain ⟨n0, n1⟩ := nrm_bd (90000 - az)
  have HT := Lib.hid hT
  clear hT
  go_enter Tryd.func128, Tryd.ntmps128
  go_wp2_with fail
  generalize hW : World.alloc w _ = w1
  have HB := below_alloc hW
  have x0 := blk_alloc hW
  clear hW
  refine (normalAngle_eq _ (by omega) (by omega) _).mono ?_
  rintro e w2 ⟨rfl, rfl⟩
  go_wp2_with fail
  refine (directionOf_any _ _ ⟨by omega, by omega⟩ hl _ (HT.out.below HB)).mono ?_
  rintro e w3 ⟨rfl, hb3⟩
  replace HB := HB.trans (hb3.mono HB.size)
  replace x0 := x0.below hb3 x0.lt
  have e0 := x0.cell 0
  have e1 := x0.cell 1
  have e2 := x0.cell 2
  simp at e0 e1 e2
  have el := x0.lt
  have eg0 := x0.frozen 0
  have eg1 := x0.frozen 1
  have eg2 := x0.frozen 2
  go_wp2_with fail
  refine bodyPost_ret (v := .agg #[.int .i64 (dirV (nrm (90000 - az)) alt).f0, .int .i64 (dirV (nrm (90000 - az)) alt).f1, .int .i64 (dirV (nrm (90000 - az)) alt).f2]) (by simp [results, Tryd.results128, go_sem, e0, e1, e2]) rfl ⟨rfl, ?_⟩
  repeat (first | with_reducible exact Below.refl _ _ | with_reducible assumption | with_reducible refine Below.setCell ?_ (by simp <;> omega) _ | with_reducible refine Below.alloc ?_ (by simp <;> omega) _ | with_reducible refine Below.drew ?_)
set_option maxRecDepth 100000 in
set_option maxHeartbeats 4000000 in
theorem domePoint_any (x : DomeD) (az alt : Int) (w : World) (hr : 1000 ≤ x.f1 ∧ x.f1 ≤ 30000) (ha : 0 ≤ az ∧ az ≤ 359999) (hl : I64 alt) (hT : Tab w) :
    Calls Tryd.prog 86 #[.agg #[.string x.f0, .int .i64 x.f1, .int .i64 x.f2], .int .i64 az, .int .i64 alt] w fun e w' => e = .returned (.agg #[.int .i64 (ptV x.f1 az alt).f0, .int .i64 (ptV x.f1 az alt).f1, .int .i64 (ptV x.f1 az alt).f2]) ∧ Below w.heap.size w w' := by
  obtain ⟨⟨m1, m2⟩, ⟨m3, m4⟩, m5, m6⟩ := ptV_parts az alt hr.1 hr.2
  have HT := Lib.hid hT
  clear hT
  go_enter Tryd.func86, Tryd.ntmps86
  go_wp2_with fail
  generalize hW : World.alloc (World.alloc w _) _ = w1
  have HB : Below w.heap.size w w1 := by rw [← hW]; repeat (first | with_reducible exact Below.refl _ _ | with_reducible assumption | with_reducible refine Below.setCell ?_ (by simp <;> omega) _ | with_reducible refine Below.alloc ?_ (by simp <;> omega) _ | with_reducible refine Below.drew ?_)
  have b0 : Blk w1 w.heap.size 54 #[.string x.f0, .int .i64 x.f1, .int .i64 x.f2] := by rw [← hW]; exact (Blk.new w _ _).alloc _
  have x0 : Blk w1 (w.heap.size + 1) 58 #[.int .i64 0, .int .i64 0, .int .i64 0] := by
    have h := blk_alloc hW
    simpa using h
  clear hW
  refine (domeVector_any _ _ _ ha hl (HT.out.below HB)).mono ?_
  rintro e w2 ⟨rfl, hb2⟩
  replace HB := HB.trans (hb2.mono HB.size)
  replace x0 := x0.below hb2 x0.lt
  replace b0 := b0.below hb2 b0.lt
  go_wp2_with fail
  generalize hV : World.alloc _ _ = w4
  have hb4 := below_alloc hV
  have x1 := blk_alloc hV
  clear hV
  replace HB := HB.trans (hb4.mono HB.size)
  replace x0 := x0.below hb4 x0.lt
  replace b0 := b0.below hb4 b0.lt
  have c0 := b0.cell 0
  have c1 := b0.cell 1
  have c2 := b0.cell 2
  simp at c0 c1 c2
  have cl := b0.lt
  have d0 := x1.cell 0
  have d1 := x1.cell 1
  have d2 := x1.cell 2
  simp at d0 d1 d2
  have dl := x1.lt
  refine wp_region_ext_tail 0 18 (by kernel_rfl) (by kernel_rfl) (fun d _ _ _ _ h => by cases d <;> exact h) ?_
  simp only [List.take_succ_cons, List.take_zero, List.drop_succ_cons, List.drop_zero]
  repeat (go_big_quiet_step ((go_at_call 90; exact quiet_ext (nearest_any _ _ (by omega) (by omega) (by omega) (by omega) _))))
  refine wpQuiet_nil ?_
  intro e1
  have hb9 := e1.below
  replace HB := HB.trans (hb9.mono HB.size)
  replace x0 := x0.below hb9 x0.lt
  have e0 := x0.cell 0
  have e1 := x0.cell 1
  have e2 := x0.cell 2
  simp at e0 e1 e2
  have el := x0.lt
  have eg0 := x0.frozen 0
  have eg1 := x0.frozen 1
  have eg2 := x0.frozen 2
  go_wp2_with fail
  refine bodyPost_ret (v := .agg #[.int .i64 (ptV x.f1 az alt).f0, .int .i64 (ptV x.f1 az alt).f1, .int .i64 (ptV x.f1 az alt).f2]) (by simp [results, Tryd.results86, go_sem, e0, e1, e2]; exact ⟨rfl, rfl, rfl⟩) rfl ⟨rfl, ?_⟩
  repeat (first | with_reducible exact Below.refl _ _ | with_reducible assumption | with_reducible refine Below.setCell ?_ (by simp <;> omega) _ | with_reducible refine Below.alloc ?_ (by simp <;> omega) _ | with_reducible refine Below.drew ?_)
end Go.Proofs.YthjllledhcfnhaaDoor
