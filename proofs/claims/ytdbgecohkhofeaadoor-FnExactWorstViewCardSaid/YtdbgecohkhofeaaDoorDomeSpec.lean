/- Domes of the reference. Conditions: the arguments are int64; the sizes of strings. -/
import Derived.Test.YtdbgecohkhofeaaDoorVecImpl
import Derived.Test.YtdbgecohkhofeaaDoorDomeMath
import Derived.Test.YtdbgecohkhofeaaDoorName
namespace Go.Proofs.YtdbgecohkhofeaaDoor
open Go.RowKit Go.Lib Go.Ks
theorem ret_tup4 {a a' b b' c c' d d' : Int} (h : a = a') (h' : b = b') (h'' : c = c') (h3 : d = d') : Ending.returned (.tuple #[.int .i64 a, .int .i64 b, .int .i64 c, .int .i64 d]) = .returned (.tuple #[.int .i64 a', .int .i64 b', .int .i64 c', .int .i64 d']) := by rw [h, h', h'', h3]
theorem ret_spot2 {a a' b b' c c' : Int} (h : a = a') (h' : b = b') (h'' : c = c') : Ending.returned (.tuple #[.agg #[.int .i64 a, .int .i64 b], .int .i64 c]) = .returned (.tuple #[.agg #[.int .i64 a', .int .i64 b'], .int .i64 c']) := by rw [h, h', h'']
theorem ret_vec {a a' b b' c c' d d' : Int} (h : a = a') (h' : b = b') (h'' : c = c') (h3 : d = d') : Ending.returned (.tuple #[.agg #[.int .i64 a, .int .i64 b, .int .i64 c], .int .i64 d]) = .returned (.tuple #[.agg #[.int .i64 a', .int .i64 b', .int .i64 c'], .int .i64 d']) := by rw [h, h', h'', h3]
theorem results_t3 {fn : Func} {t u v : Tmp} (h : fn.results = #[.tmp t, .tmp u, .tmp v]) (tmps : Array Value) (P : Program) (w : World) :
    (results fn tmps).run P w = .ok (.tuple #[tmps.getD t undef, tmps.getD u undef, tmps.getD v undef]) w := by
  simp [results, h]
theorem results_t4 {fn : Func} {t u v s : Tmp} (h : fn.results = #[.tmp t, .tmp u, .tmp v, .tmp s]) (tmps : Array Value) (P : Program) (w : World) :
    (results fn tmps).run P w = .ok (.tuple #[tmps.getD t undef, tmps.getD u undef, tmps.getD v undef, tmps.getD s undef]) w := by
  simp [results, h]
theorem below_alloc {w w' : World} {o : Obj} (h : w.alloc o = w') : Below w.heap.size w w' := by rw [← h]; exact (Below.refl _ _).alloc (Nat.le_refl _) _
theorem blk_alloc {w w' : World} {cs : Array Value} {t : TypeId} (h : w.alloc (.cells cs t) = w') : Blk w' w.heap.size t cs := by rw [← h]; exact Blk.new w t cs
/-- a valid dome -/
def DomeOk1 (x : DomeD) : Prop := NameOk x.f0 ∧ inB x.f1 1000 30000 = true ∧ inB x.f2 0 45000 = true
open Classical in
noncomputable def domeB (x : DomeD) : Bool := decide (DomeOk1 x)
theorem domeB_no {x : DomeD} (h : ¬ DomeOk1 x) : domeB x = false := by simp [domeB, h]
theorem domeB_yes {x : DomeD} (h : DomeOk1 x) : domeB x = true := by simp [domeB, h]
theorem domeB_iff {x : DomeD} : domeB x = true ↔ DomeOk1 x := by simp [domeB]
theorem dome_nums {x : DomeD} (h : domeB x = true) : (1000 ≤ x.f1 ∧ x.f1 ≤ 30000) ∧ 0 ≤ x.f2 ∧ x.f2 ≤ 45000 := ⟨inB_iff.1 (domeB_iff.1 h).2.1, inB_iff.1 (domeB_iff.1 h).2.2⟩
theorem dome_split (x : DomeD) : (nameB x.f0 = false ∧ domeB x = false) ∨ (nameB x.f0 = true ∧ inB x.f1 1000 30000 = false ∧ domeB x = false) ∨ (nameB x.f0 = true ∧ inB x.f1 1000 30000 = true ∧ domeB x = inB x.f2 0 45000) := by
  cases h0 : nameB x.f0
  · exact .inl ⟨rfl, domeB_no (fun h => by rw [nameB_yes h.1] at h0; cases h0)⟩
  refine .inr ?_
  cases h1 : inB x.f1 1000 30000
  · exact .inl ⟨rfl, rfl, domeB_no (fun h => by rw [h.2.1] at h1; cases h1)⟩
  refine .inr ⟨rfl, rfl, ?_⟩
  cases h2 : inB x.f2 0 45000
  · exact domeB_no (fun h => by rw [h.2.2] at h2; cases h2)
  · exact domeB_yes ⟨nameB_iff.1 h0, h1, h2⟩
set_option maxHeartbeats 1000000 in
theorem l09Ok_any (b o : Nat) (x : DomeD) (w : World) (hx : DomeAt w b o x) (hok : x.f0.size ≤ 9223372036854775807) :
    Calls Tryd.prog 57 #[.pointer (some ⟨b, o, none⟩)] w fun e w' => e = .returned (.bool (domeB x)) ∧ w = w' := by
  obtain ⟨hlt, c0, c1, c2⟩ := hx
  rcases dome_split x with ⟨a0, E⟩ | ⟨a0, a1, E⟩ | ⟨a0, a1, E⟩
  all_goals
    have EE := Lib.hid E
    clear E
    go_enter Tryd.func57, Tryd.ntmps57
    go_wp2_with (first | (go_at_call 85; refine (l01Name_eq _ (by assumption) _).mono ?_; rintro e w' ⟨rfl, rfl⟩) | (go_at_call 36; refine (l00In_eq _ _ _ _).mono ?_; rintro e w' ⟨rfl, rfl⟩))
    go_ret
    exact ⟨ret_bool EE.out.symm, rfl⟩
/-- a direction: azimuth and altitude -/
def dirB (a h : Int) : Bool := inB a 0 359999 && inB h (-90000) 90000
theorem dirB_no1 {a h : Int} (q : inB a 0 359999 = false) : dirB a h = false := by simp [dirB, q]
theorem dirB_eq {a h : Int} (q : inB a 0 359999 = true) : dirB a h = inB h (-90000) 90000 := by simp [dirB, q]
theorem dirB_iff {a h : Int} : dirB a h = true ↔ (0 ≤ a ∧ a ≤ 359999) ∧ (-90000 ≤ h ∧ h ≤ 90000) := by simp [dirB, inB_iff]
theorem l05Direction_eq (a h : Int) (w : World) :
    Calls Tryd.prog 58 #[.int .i64 a, .int .i64 h] w fun e w' => e = .returned (.bool (dirB a h)) ∧ w = w' := by
  cases q1 : inB a 0 359999
  · have E := Lib.hid (dirB_no1 (h := h) q1)
    go_enter Tryd.func58, Tryd.ntmps58
    go_wp2_with fail
    refine (l03Angle_eq _ _).mono ?_
    rintro e w1 ⟨rfl, rfl⟩
    go_wp2_with fail
    go_ret
    exact ⟨ret_bool E.out.symm, rfl⟩
  · have E := Lib.hid (dirB_eq (h := h) q1)
    go_enter Tryd.func58, Tryd.ntmps58
    go_wp2_with fail
    refine (l03Angle_eq _ _).mono ?_
    rintro e w1 ⟨rfl, rfl⟩
    go_wp2_with fail
    refine (l00In_eq _ _ _ _).mono ?_
    rintro e w1 ⟨rfl, rfl⟩
    go_wp2_with fail
    go_ret
    exact ⟨ret_bool E.out.symm, rfl⟩
theorem r_sine {r s : Int} (h0 : 0 ≤ r) (h1 : r ≤ 1000000) (h2 : -1000000 ≤ s ∧ s ≤ 1000000) : -1000000000000 ≤ r * s ∧ r * s ≤ 1000000000000 := by
  have := mul_bd2 (a := r) (b := s) (m := 1000000) (n := 1000000) (by omega) h1 h2.1 h2.2 (by omega)
  omega
set_option maxRecDepth 100000 in
set_option maxHeartbeats 4000000 in
theorem l09Spot_any (az alt : Int) (h : (0 ≤ az ∧ az ≤ 359999) ∧ (0 ≤ alt ∧ alt ≤ 90000)) (w : World) :
    Calls Tryd.prog 43 #[.int .i64 az, .int .i64 alt] w fun e w' => e = .returned (.agg #[.int .i64 (spotV az alt).f0, .int .i64 (spotV az alt).f1]) ∧ Below w.heap.size w w' := by
  obtain ⟨⟨h1, h2⟩, h3, h4⟩ := h
  obtain ⟨r0, r1⟩ := spotR_bd h3 h4
  obtain ⟨a1, a2⟩ := r_sine r0 r1 (sine_bd az)
  obtain ⟨b1, b2⟩ := r_sine r0 r1 (cosi_bd az)
  have hr : divr ((90000 - alt) * 1000000) 90000 = spotR alt := rfl
  have HR := Lib.hid hr
  clear hr
  go_enter Tryd.func43, Tryd.ntmps43
  go_wp2_with fail
  generalize hW : World.alloc w _ = w1
  have HB : Below w.heap.size w w1 := by rw [← hW]; repeat (first | with_reducible exact Below.refl _ _ | with_reducible assumption | with_reducible refine Below.setCell ?_ (by simp <;> omega) _ | with_reducible refine Below.alloc ?_ (by simp <;> omega) _ | with_reducible refine Below.drew ?_)
  have x0 : Blk w1 w.heap.size 26 #[.int .i64 0, .int .i64 0] := by rw [← hW]; exact Blk.new w _ _
  clear hW
  go_wp2_with fail
  refine (l01Div_any _ _ (by omega) (by omega) (by omega) (by omega) _).mono ?_
  rintro e w2 ⟨rfl, hb2⟩
  replace HB := HB.trans (hb2.mono HB.size)
  replace x0 := x0.below hb2 x0.lt
  rw [HR.out]
  go_wp2_with fail
  refine (l02Sine_any _ (by omega) (by omega) _).mono ?_
  rintro e w3 ⟨rfl, hb3⟩
  replace HB := HB.trans (hb3.mono HB.size)
  replace x0 := x0.below hb3 x0.lt
  go_wp2_with fail
  refine (l01Div_any _ _ (by omega) (by omega) (by omega) (by omega) _).mono ?_
  rintro e w4 ⟨rfl, hb4⟩
  replace HB := HB.trans (hb4.mono HB.size)
  replace x0 := x0.below hb4 x0.lt
  go_wp2_with fail
  refine (l02Cosine_any _ (by omega) (by omega) _).mono ?_
  rintro e w5 ⟨rfl, hb5⟩
  replace HB := HB.trans (hb5.mono HB.size)
  replace x0 := x0.below hb5 x0.lt
  go_wp2_with fail
  refine (l01Div_any _ _ (by omega) (by omega) (by omega) (by omega) _).mono ?_
  rintro e w6 ⟨rfl, hb6⟩
  replace HB := HB.trans (hb6.mono HB.size)
  replace x0 := x0.below hb6 x0.lt
  have e0 := x0.cell 0
  have e1 := x0.cell 1
  simp at e0 e1
  have el := x0.lt
  have eg0 := x0.frozen 0
  have eg1 := x0.frozen 1
  go_wp2_with fail
  refine bodyPost_ret (v := .agg #[.int .i64 (spotV az alt).f0, .int .i64 (spotV az alt).f1]) (by simp [results, Tryd.results43, go_sem, e0, e1]; exact ⟨rfl, rfl⟩) rfl ⟨rfl, ?_⟩
  repeat (first | with_reducible exact Below.refl _ _ | with_reducible assumption | with_reducible refine Below.setCell ?_ (by simp <;> omega) _ | with_reducible refine Below.alloc ?_ (by simp <;> omega) _ | with_reducible refine Below.drew ?_)
set_option maxRecDepth 100000 in
set_option maxHeartbeats 4000000 in
theorem l04Rotated_any (v : VectorD) (a : Int) (hv : Vb 1000000 v) (ha : I64 a) (w : World) :
    Calls Tryd.prog 86 #[.agg #[.int .i64 v.f0, .int .i64 v.f1, .int .i64 v.f2], .int .i64 1, .int .i64 a] w fun e w' => e = .returned (.agg #[.int .i64 (rotV v a).f0, .int .i64 (rotV v a).f1, .int .i64 (rotV v a).f2]) ∧ Below w.heap.size w w' := by
  obtain ⟨⟨a1, a2⟩, b1, b2⟩ := rot_bd a hv
  obtain ⟨c1, c2⟩ := cosi_bd a
  obtain ⟨s1, s2⟩ := sine_bd a
  have p1 := unit_mul hv.2.1.1 hv.2.1.2 c1 c2
  have p2 := unit_mul hv.2.2.1 hv.2.2.2 s1 s2
  have p3 := unit_mul hv.2.1.1 hv.2.1.2 s1 s2
  have p4 := unit_mul hv.2.2.1 hv.2.2.2 c1 c2
  obtain ⟨p11, p12⟩ := p1
  obtain ⟨p21, p22⟩ := p2
  obtain ⟨p31, p32⟩ := p3
  obtain ⟨p41, p42⟩ := p4
  obtain ⟨i1, i2⟩ := ha
  go_enter Tryd.func86, Tryd.ntmps86
  go_wp2_with fail
  generalize hW : World.alloc (World.alloc w _) _ = w1
  have HB : Below w.heap.size w w1 := by rw [← hW]; repeat (first | with_reducible exact Below.refl _ _ | with_reducible assumption | with_reducible refine Below.setCell ?_ (by simp <;> omega) _ | with_reducible refine Below.alloc ?_ (by simp <;> omega) _ | with_reducible refine Below.drew ?_)
  have x0 : Blk w1 w.heap.size 34 #[.int .i64 v.f0, .int .i64 v.f1, .int .i64 v.f2] := by rw [← hW]; exact (Blk.new w _ _).alloc _
  have x1 : Blk w1 (w.heap.size + 1) 34 #[.int .i64 0, .int .i64 0, .int .i64 0] := by
    have h := Blk.new (w.alloc (.cells #[.int .i64 v.f0, .int .i64 v.f1, .int .i64 v.f2] 34)) 34 #[.int .i64 0, .int .i64 0, .int .i64 0]
    rw [hW] at h
    simpa using h
  clear hW
  refine (l02Sine_any _ i1 i2 _).mono ?_
  rintro e w2 ⟨rfl, hb2⟩
  replace HB := HB.trans (hb2.mono HB.size)
  replace x0 := x0.below hb2 x0.lt
  replace x1 := x1.below hb2 x1.lt
  go_wp2_with fail
  refine (l02Cosine_any _ i1 i2 _).mono ?_
  rintro e w3 ⟨rfl, hb3⟩
  replace HB := HB.trans (hb3.mono HB.size)
  replace x0 := x0.below hb3 x0.lt
  replace x1 := x1.below hb3 x1.lt
  have d0 := x0.cell 0
  have d1 := x0.cell 1
  have d2 := x0.cell 2
  simp at d0 d1 d2
  have dl := x0.lt
  go_wp2_with fail
  refine wp_region_ext_tail 0 22 (by kernel_rfl) (by kernel_rfl) (fun d _ _ _ _ h => by cases d <;> exact h) ?_
  simp only [List.take_succ_cons, List.take_zero, List.drop_succ_cons, List.drop_zero]
  repeat (go_big_quiet_step ((go_at_call 37; exact quiet_ext (l01Div_any _ _ (by omega) (by omega) (by omega) (by omega) _))))
  refine wpQuiet_nil ?_
  intro e1
  have hb4 := e1.below
  replace HB := HB.trans (hb4.mono HB.size)
  replace x1 := x1.below hb4 x1.lt
  have e0 := x1.cell 0
  have e1 := x1.cell 1
  have e2 := x1.cell 2
  simp at e0 e1 e2
  have el := x1.lt
  have eg0 := x1.frozen 0
  have eg1 := x1.frozen 1
  have eg2 := x1.frozen 2
  go_wp2_with fail
  refine bodyPost_ret (v := .agg #[.int .i64 (rotV v a).f0, .int .i64 (rotV v a).f1, .int .i64 (rotV v a).f2]) (by simp [results, Tryd.results86, go_sem, e0, e1, e2]; exact ⟨rfl, rfl, rfl⟩) rfl ⟨rfl, ?_⟩
  repeat (first | with_reducible exact Below.refl _ _ | with_reducible assumption | with_reducible refine Below.setCell ?_ (by simp <;> omega) _ | with_reducible refine Below.alloc ?_ (by simp <;> omega) _ | with_reducible refine Below.drew ?_)
set_option maxRecDepth 100000 in
set_option maxHeartbeats 4000000 in
theorem l04Angles_any (v : VectorD) (hv : Vb 2000000 v) (w : World) :
    Calls Tryd.prog 87 #[.agg #[.int .i64 v.f0, .int .i64 v.f1, .int .i64 v.f2]] w fun e w' => e = .returned (.tuple #[.int .i64 (angA v), .int .i64 (angB v)]) ∧ Below w.heap.size w w' := by
  obtain ⟨⟨q1, q2⟩, ⟨q3, q4⟩, q5, q6⟩ := sum2_bd hv (by omega) (by omega)
  obtain ⟨x, y, z⟩ := v
  obtain ⟨⟨v1, v2⟩, ⟨v3, v4⟩, v5, v6⟩ := hv
  dsimp only at *
  have HA := Lib.hid (by rfl : angA ⟨x, y, z⟩ = arct y x)
  have HB2 := Lib.hid (by rfl : angB ⟨x, y, z⟩ = if 90000 < arct z (iroot (x * x + y * y)) then arct z (iroot (x * x + y * y)) - 360000 else arct z (iroot (x * x + y * y)))
  obtain ⟨l0, l1⟩ := arct_bd z (iroot (x * x + y * y))
  by_cases hx : x = 0
  · by_cases hy : y = 0
    · subst hx hy
      have hs : (0 : Int) * 0 + 0 * 0 = 0 := rfl
      rw [hs] at q5 q6 l0 l1 HB2
      replace HA := Lib.hid (HA.out.trans arct_zero)
      by_cases g : 90000 < arct z (iroot 0)
      · have E2 := Lib.hid (by rw [HB2.out]; exact if_pos g : angB ⟨0, 0, z⟩ = arct z (iroot 0) - 360000)
        go_enter Tryd.func87, Tryd.ntmps87
        go_wp2_with fail
        generalize hW : World.alloc w _ = w1
        have HB : Below w.heap.size w w1 := by rw [← hW]; repeat (first | with_reducible exact Below.refl _ _ | with_reducible assumption | with_reducible refine Below.setCell ?_ (by simp <;> omega) _ | with_reducible refine Below.alloc ?_ (by simp <;> omega) _ | with_reducible refine Below.drew ?_)
        have x0 : Blk w1 w.heap.size 34 #[.int .i64 0, .int .i64 0, .int .i64 z] := by rw [← hW]; exact Blk.new w _ _
        clear hW
        have d0 := x0.cell 0
        have d1 := x0.cell 1
        have d2 := x0.cell 2
        simp at d0 d1 d2
        have dl := x0.lt
        refine wp_region_ext (by kernel_rfl) (by kernel_rfl) ?_
        repeat (go_big_quiet_step ((first | (go_at_call 78; exact quiet_ext ((l01Root_eq _ (by omega) _).mono fun _ _ h => ⟨h.1, h.2 ▸ Below.refl _ _⟩)) | (go_at_call 79; exact quiet_ext (l02Arc_any _ _ (by omega) (by omega) _)))))
        refine wpQuiet_nil ?_
        intro e1
        replace HB := HB.trans (e1.below.mono HB.size)
        go_wp2_with fail
        go_ret2
        exact ⟨ret_tup HA.out.symm E2.out.symm, HB⟩
      · have E2 := Lib.hid (by rw [HB2.out]; exact if_neg g : angB ⟨0, 0, z⟩ = arct z (iroot 0))
        go_enter Tryd.func87, Tryd.ntmps87
        go_wp2_with fail
        generalize hW : World.alloc w _ = w1
        have HB : Below w.heap.size w w1 := by rw [← hW]; repeat (first | with_reducible exact Below.refl _ _ | with_reducible assumption | with_reducible refine Below.setCell ?_ (by simp <;> omega) _ | with_reducible refine Below.alloc ?_ (by simp <;> omega) _ | with_reducible refine Below.drew ?_)
        have x0 : Blk w1 w.heap.size 34 #[.int .i64 0, .int .i64 0, .int .i64 z] := by rw [← hW]; exact Blk.new w _ _
        clear hW
        have d0 := x0.cell 0
        have d1 := x0.cell 1
        have d2 := x0.cell 2
        simp at d0 d1 d2
        have dl := x0.lt
        refine wp_region_ext (by kernel_rfl) (by kernel_rfl) ?_
        repeat (go_big_quiet_step ((first | (go_at_call 78; exact quiet_ext ((l01Root_eq _ (by omega) _).mono fun _ _ h => ⟨h.1, h.2 ▸ Below.refl _ _⟩)) | (go_at_call 79; exact quiet_ext (l02Arc_any _ _ (by omega) (by omega) _)))))
        refine wpQuiet_nil ?_
        intro e1
        replace HB := HB.trans (e1.below.mono HB.size)
        go_wp2_with fail
        go_ret2
        exact ⟨ret_tup HA.out.symm E2.out.symm, HB⟩
    · subst hx
      have hs : (0 : Int) * 0 + y * y = y * y := by omega
      rw [hs] at q5 q6 l0 l1 HB2
      have hy1 : (y != 0) = true := by simpa using hy
      have hy2 : (y == 0) = false := by simpa using hy
      by_cases g : 90000 < arct z (iroot (y * y))
      · have E2 := Lib.hid (by rw [HB2.out]; exact if_pos g : angB ⟨0, y, z⟩ = arct z (iroot (y * y)) - 360000)
        go_enter Tryd.func87, Tryd.ntmps87
        go_wp2_with fail
        generalize hW : World.alloc w _ = w1
        have HB : Below w.heap.size w w1 := by rw [← hW]; repeat (first | with_reducible exact Below.refl _ _ | with_reducible assumption | with_reducible refine Below.setCell ?_ (by simp <;> omega) _ | with_reducible refine Below.alloc ?_ (by simp <;> omega) _ | with_reducible refine Below.drew ?_)
        have x0 : Blk w1 w.heap.size 34 #[.int .i64 0, .int .i64 y, .int .i64 z] := by rw [← hW]; exact Blk.new w _ _
        clear hW
        refine (l02Arc_any _ _ (by omega) (by omega) _).mono ?_
        rintro e w2 ⟨rfl, hb2⟩
        replace HB := HB.trans (hb2.mono HB.size)
        replace x0 := x0.below hb2 x0.lt
        have d0 := x0.cell 0
        have d1 := x0.cell 1
        have d2 := x0.cell 2
        simp at d0 d1 d2
        have dl := x0.lt
        go_wp2_with fail
        refine wp_region_ext (by kernel_rfl) (by kernel_rfl) ?_
        repeat (go_big_quiet_step ((first | (go_at_call 78; exact quiet_ext ((l01Root_eq _ (by omega) _).mono fun _ _ h => ⟨h.1, h.2 ▸ Below.refl _ _⟩)) | (go_at_call 79; exact quiet_ext (l02Arc_any _ _ (by omega) (by omega) _)))))
        refine wpQuiet_nil ?_
        intro e1
        replace HB := HB.trans (e1.below.mono HB.size)
        go_wp2_with fail
        go_ret2
        exact ⟨ret_tup HA.out.symm E2.out.symm, HB⟩
      · have E2 := Lib.hid (by rw [HB2.out]; exact if_neg g : angB ⟨0, y, z⟩ = arct z (iroot (y * y)))
        go_enter Tryd.func87, Tryd.ntmps87
        go_wp2_with fail
        generalize hW : World.alloc w _ = w1
        have HB : Below w.heap.size w w1 := by rw [← hW]; repeat (first | with_reducible exact Below.refl _ _ | with_reducible assumption | with_reducible refine Below.setCell ?_ (by simp <;> omega) _ | with_reducible refine Below.alloc ?_ (by simp <;> omega) _ | with_reducible refine Below.drew ?_)
        have x0 : Blk w1 w.heap.size 34 #[.int .i64 0, .int .i64 y, .int .i64 z] := by rw [← hW]; exact Blk.new w _ _
        clear hW
        refine (l02Arc_any _ _ (by omega) (by omega) _).mono ?_
        rintro e w2 ⟨rfl, hb2⟩
        replace HB := HB.trans (hb2.mono HB.size)
        replace x0 := x0.below hb2 x0.lt
        have d0 := x0.cell 0
        have d1 := x0.cell 1
        have d2 := x0.cell 2
        simp at d0 d1 d2
        have dl := x0.lt
        go_wp2_with fail
        refine wp_region_ext (by kernel_rfl) (by kernel_rfl) ?_
        repeat (go_big_quiet_step ((first | (go_at_call 78; exact quiet_ext ((l01Root_eq _ (by omega) _).mono fun _ _ h => ⟨h.1, h.2 ▸ Below.refl _ _⟩)) | (go_at_call 79; exact quiet_ext (l02Arc_any _ _ (by omega) (by omega) _)))))
        refine wpQuiet_nil ?_
        intro e1
        replace HB := HB.trans (e1.below.mono HB.size)
        go_wp2_with fail
        go_ret2
        exact ⟨ret_tup HA.out.symm E2.out.symm, HB⟩
  · have hx1 : (x != 0) = true := by simpa using hx
    have hx2 : (x == 0) = false := by simpa using hx
    by_cases g : 90000 < arct z (iroot (x * x + y * y))
    · have E2 := Lib.hid (by rw [HB2.out]; exact if_pos g : angB ⟨x, y, z⟩ = arct z (iroot (x * x + y * y)) - 360000)
      go_enter Tryd.func87, Tryd.ntmps87
      go_wp2_with fail
      generalize hW : World.alloc w _ = w1
      have HB : Below w.heap.size w w1 := by rw [← hW]; repeat (first | with_reducible exact Below.refl _ _ | with_reducible assumption | with_reducible refine Below.setCell ?_ (by simp <;> omega) _ | with_reducible refine Below.alloc ?_ (by simp <;> omega) _ | with_reducible refine Below.drew ?_)
      have x0 : Blk w1 w.heap.size 34 #[.int .i64 x, .int .i64 y, .int .i64 z] := by rw [← hW]; exact Blk.new w _ _
      clear hW
      refine (l02Arc_any _ _ (by omega) (by omega) _).mono ?_
      rintro e w2 ⟨rfl, hb2⟩
      replace HB := HB.trans (hb2.mono HB.size)
      replace x0 := x0.below hb2 x0.lt
      have d0 := x0.cell 0
      have d1 := x0.cell 1
      have d2 := x0.cell 2
      simp at d0 d1 d2
      have dl := x0.lt
      go_wp2_with fail
      refine wp_region_ext (by kernel_rfl) (by kernel_rfl) ?_
      repeat (go_big_quiet_step ((first | (go_at_call 78; exact quiet_ext ((l01Root_eq _ (by omega) _).mono fun _ _ h => ⟨h.1, h.2 ▸ Below.refl _ _⟩)) | (go_at_call 79; exact quiet_ext (l02Arc_any _ _ (by omega) (by omega) _)))))
      refine wpQuiet_nil ?_
      intro e1
      replace HB := HB.trans (e1.below.mono HB.size)
      go_wp2_with fail
      go_ret2
      exact ⟨ret_tup HA.out.symm E2.out.symm, HB⟩
    · have E2 := Lib.hid (by rw [HB2.out]; exact if_neg g : angB ⟨x, y, z⟩ = arct z (iroot (x * x + y * y)))
      go_enter Tryd.func87, Tryd.ntmps87
      go_wp2_with fail
      generalize hW : World.alloc w _ = w1
      have HB : Below w.heap.size w w1 := by rw [← hW]; repeat (first | with_reducible exact Below.refl _ _ | with_reducible assumption | with_reducible refine Below.setCell ?_ (by simp <;> omega) _ | with_reducible refine Below.alloc ?_ (by simp <;> omega) _ | with_reducible refine Below.drew ?_)
      have x0 : Blk w1 w.heap.size 34 #[.int .i64 x, .int .i64 y, .int .i64 z] := by rw [← hW]; exact Blk.new w _ _
      clear hW
      refine (l02Arc_any _ _ (by omega) (by omega) _).mono ?_
      rintro e w2 ⟨rfl, hb2⟩
      replace HB := HB.trans (hb2.mono HB.size)
      replace x0 := x0.below hb2 x0.lt
      have d0 := x0.cell 0
      have d1 := x0.cell 1
      have d2 := x0.cell 2
      simp at d0 d1 d2
      have dl := x0.lt
      go_wp2_with fail
      refine wp_region_ext (by kernel_rfl) (by kernel_rfl) ?_
      repeat (go_big_quiet_step ((first | (go_at_call 78; exact quiet_ext ((l01Root_eq _ (by omega) _).mono fun _ _ h => ⟨h.1, h.2 ▸ Below.refl _ _⟩)) | (go_at_call 79; exact quiet_ext (l02Arc_any _ _ (by omega) (by omega) _)))))
      refine wpQuiet_nil ?_
      intro e1
      replace HB := HB.trans (e1.below.mono HB.size)
      go_wp2_with fail
      go_ret2
      exact ⟨ret_tup HA.out.symm E2.out.symm, HB⟩
end Go.Proofs.YtdbgecohkhofeaaDoor
