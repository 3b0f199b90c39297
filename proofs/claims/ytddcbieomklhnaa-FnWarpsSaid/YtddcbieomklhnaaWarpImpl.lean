/- Where a point of an image lies: the program's function. Conditions: a valid mesh, a point of the image. -/
import Derived.Test.YtddcbieomklhnaaWarp
import Derived.Test.YtddcbieomklhnaaAllocs
namespace Go.Proofs.Ytddcbieomklhnaa
open Go.RowKit Go.Lib Go.Ks

def spotG (u : Value) : Prop := ∃ x y : Int, u = .agg #[.int .i64 x, .int .i64 y]
def aggC : Value → Array Value | .agg c => c | _ => #[]
theorem allocSpot : AllocRun Try.prog 39 #[.int .i64 0, .int .i64 0] := fun w => by
  simp [go_sem, Instr.alloc]
theorem storeSpot : StoreRun Try.prog 39 #[.int .i64 0, .int .i64 0] spotG aggC := by
  rintro w B u ⟨x, y, rfl⟩ hb
  have h0 := hb.cell 0
  have h1 := hb.cell 1
  have g0 := hb.frozen 0
  have g1 := hb.frozen 1
  have hl := hb.lt
  simp at h0 h1
  refine ⟨(w.setCell ⟨B, 0, none⟩ (.int .i64 x)).setCell ⟨B, 1, none⟩ (.int .i64 y), ?_, by simp [World.setCell], fun base hbase => ?_, (hb.set_ 0 _).set_ 1 _, fun B' c hne hB => (hB.far (p := ⟨B, 0, none⟩) hne _).far (p := ⟨B, 1, none⟩) hne _⟩
  · simp [go_sem, Instr.storeAt, h0, h1, g0, g1]
  · exact (Below.setCell (Below.refl _ _) hbase _).setCell hbase _
set_option maxRecDepth 100000 in
set_option maxHeartbeats 8000000 in
theorem warp_any (C R : Int) (A : Option Addr) (n cp : Nat) (l : Nat → SpotD) (u v : Int) (w : World) (ok : MeshOk C R n l) (hs : Sl w A (n * 2) (SpotC l)) (hu : Un u) (hv : Un v) :
    Calls Try.prog 67 #[.agg #[.int .i64 C, .int .i64 R, .slice A n cp], .int .i64 u, .int .i64 v] w fun e w' => e = .returned (.agg #[.int .i64 (warpX C R l u v), .int .i64 (warpY C R l u v)]) ∧ Below w.heap.size w w' := by
  obtain ⟨⟨hC1, hC2⟩, ⟨hR1, hR2⟩, hn, hpl⟩ := ok
  obtain ⟨hu1, hu2⟩ := hu
  obtain ⟨hv1, hv2⟩ := hv
  obtain ⟨c, rfl⟩ := Int.eq_ofNat_of_zero_le (by omega : 0 ≤ C)
  obtain ⟨r, rfl⟩ := Int.eq_ofNat_of_zero_le (by omega : 0 ≤ R)
  have HN := Lib.hid hn
  have a1 := warp_num hC1 hC2 hu1 hu2
  have a2 := warp_num hR1 hR2 hv1 hv2
  obtain ⟨a11, a12, a13⟩ := a1
  obtain ⟨a21, a22, a23⟩ := a2
  have i1 := warpI_bd hC1 hC2 hu1 hu2
  have i2 := warpI_bd hR1 hR2 hv1 hv2
  have f1 := warpF_bd hC1 hC2 hu1 hu2
  have f2 := warpF_bd hR1 hR2 hv1 hv2
  have k1 := warpK_bd hC1 hC2 hR1 hR2 hu1 hu2 hv1 hv2
  have hj : 0 ≤ warpI r v * (c : Int) ∧ warpI r v * (c : Int) ≤ 63 := by
    have := mul_bd (a := warpI r v) (b := (c : Int)) (m := 7) (n := 9) (by omega) (by omega) (by omega) (by omega) (by omega)
    exact ⟨Int.mul_nonneg (by omega) (by omega), by omega⟩
  obtain ⟨j1, j2⟩ := hj
  obtain ⟨i11, i12⟩ := i1
  obtain ⟨i21, i22⟩ := i2
  obtain ⟨f11, f12⟩ := f1
  obtain ⟨f21, f22⟩ := f2
  obtain ⟨k11, k12⟩ := k1
  unfold warpF at f11 f12 f21 f22
  obtain ⟨k, hk⟩ := Int.eq_ofNat_of_zero_le k11
  have hkn : k + c + 1 < n := by omega
  have HPL := Lib.hid hpl
  clear hpl
  have HK := Lib.hid hk
  unfold warpK at hk k11 k12
  obtain ⟨b, off, rfl, hb, hc⟩ := hs (by omega)
  have co := corners_of hc hkn
  clear hc
  have co1 := co k (.inl rfl)
  have co2 := co (k + 1) (.inr (.inl rfl))
  have co3 := co (k + c) (.inr (.inr (.inl rfl)))
  have co4 := co (k + c + 1) (.inr (.inr (.inr rfl)))
  clear co
  obtain ⟨c10, c11⟩ := co1
  obtain ⟨c20, c21⟩ := co2
  obtain ⟨c30, c31⟩ := co3
  obtain ⟨c40, c41⟩ := co4
  go_enter Try.func67, Try.ntmps67
  go_wp2_with fail
  generalize hW : World.alloc (World.alloc w _) _ = w1
  have hb1 : Below w.heap.size w w1 := by rw [← hW]; repeat (first | with_reducible exact Below.refl _ _ | with_reducible assumption | with_reducible refine Below.setCell ?_ (by simp <;> omega) _ | with_reducible refine Below.alloc ?_ (by simp <;> omega) _ | with_reducible refine Below.drew ?_)
  have x0 : Blk w1 w.heap.size 29 #[.int .i64 (c : Int), .int .i64 (r : Int), .slice (some ⟨b, off, none⟩) n cp] := by rw [← hW]; exact (Blk.new w _ _).alloc _
  have x1 : Blk w1 (w.heap.size + 1) 39 #[.int .i64 0, .int .i64 0] := by
    have h := Blk.new (w.alloc (.cells #[.int .i64 (c : Int), .int .i64 (r : Int), .slice (some ⟨b, off, none⟩) n cp] 29)) 39 #[.int .i64 0, .int .i64 0]
    rw [hW] at h
    simpa using h
  clear hW
  have m0 := x0.cell 0
  have m1 := x0.cell 1
  simp at m0 m1
  go_quiet (fail)
  go_wp2_with fail
  have eI : ∀ x : Int, (x = u * ((c : Int) - 1) / 1000000 ∧ x ≤ (c : Int) - 2) ∨ (x = (c : Int) - 2 ∧ x ≤ u * ((c : Int) - 1) / 1000000) → x = warpI c u := fun x hx => by unfold warpI; omega
  have eJ : ∀ x : Int, (x = v * ((r : Int) - 1) / 1000000 ∧ x ≤ (r : Int) - 2) ∨ (x = (r : Int) - 2 ∧ x ≤ v * ((r : Int) - 1) / 1000000) → x = warpI r v := fun x hx => by unfold warpI; omega
  have EI := Lib.hid eI
  have EJ := Lib.hid eJ
  clear eI eJ
  go_cut [9, 10] (fun i j wr => i = .int .i64 (warpI c u) ∧ j = .int .i64 (warpI r v) ∧ Below w1.heap.size w1 wr)
  case first =>
    go_quiet (fail)
    go_wp2_with fail
    all_goals (go_meet; refine ⟨ret_num (EI.out _ (by omega)), ret_num (EJ.out _ (by omega)), ?_⟩)
    all_goals exact ⟨rfl, rfl, rfl, Nat.le_refl _, fun _ _ => rfl⟩
  obtain ⟨rfl, rfl, hb2⟩ := hcut
  have hk2 : (k : Int) < (n : Int) := by omega
  have hk3 : (k : Int) + 1 < (n : Int) := by omega
  have hk4 : (k : Int) + (c : Int) < (n : Int) := by omega
  have hk5 : (k : Int) + (c : Int) + 1 < (n : Int) := by omega
  generalize hI : warpI c u = I at *
  generalize hJ : warpI r v = J at *
  have HI := Lib.hid hI
  have HJ := Lib.hid hJ
  clear hI hJ hn
  obtain ⟨w2, rfl⟩ : ∃ q : World, q = wc := ⟨_, rfl⟩
  have y0 := x0.below hb2 x0.lt
  have y1 := x1.below hb2 x1.lt
  clear m0 m1 x0 x1
  have m0 := y0.cell 0
  have m2 := y0.cell 2
  simp at m0 m2
  have ly0 := y0.lt
  have ly1 := y1.lt
  have hbo := hb1.trans (hb2.mono hb1.size)
  have hszo := hbo.size
  obtain ⟨oc, of⟩ := bcell hbo
  have d10 := (oc b (off + k * 2) hb).trans c10
  have d11 := (oc b (off + k * 2 + 1) hb).trans c11
  have d20 := (oc b (off + (k + 1) * 2) hb).trans c20
  have d21 := (oc b (off + (k + 1) * 2 + 1) hb).trans c21
  have d30 := (oc b (off + (k + c) * 2) hb).trans c30
  have d31 := (oc b (off + (k + c) * 2 + 1) hb).trans c31
  have d40 := (oc b (off + (k + c + 1) * 2) hb).trans c40
  have d41 := (oc b (off + (k + c + 1) * 2 + 1) hb).trans c41
  have lb : b < w2.heap.size := by omega
  clear oc of c10 c11 c20 c21 c30 c31 c40 c41
  go_wp2_with fail
  have hq1 : (0 : Int) ≤ (k : Int) + (c : Int) := by omega
  have hq2 : ((k : Int) + (c : Int)).toNat = k + c := by omega
  have hq3 : (0 : Int) ≤ (k : Int) + (c : Int) + 1 := by omega
  have hq4 : ((k : Int) + (c : Int) + 1).toNat = k + c + 1 := by omega
  have hq5 : (0 : Int) ≤ (k : Int) + 1 := by omega
  have hq6 : ((k : Int) + 1).toNat = k + 1 := by omega
  have hw0 : IntKind.i64.wrap ((k : Int) + 1) = (k : Int) + 1 := IntWalk.i64_in _ (by omega)
  have hw1 : IntKind.i64.wrap ((k : Int) + (c : Int)) = (k : Int) + (c : Int) := IntWalk.i64_in _ (by omega)
  have hw2 : IntKind.i64.wrap ((k : Int) + (c : Int) + 1) = (k : Int) + (c : Int) + 1 := IntWalk.i64_in _ (by omega)
  go_cut [14, 15, 16, 17] (fun p q r s wr => ∃ P Q R S : Nat, p = .pointer (some ⟨P, 0, none⟩) ∧ q = .pointer (some ⟨Q, 0, none⟩) ∧ r = .pointer (some ⟨R, 0, none⟩) ∧ s = .pointer (some ⟨S, 0, none⟩) ∧
    Blk wr P 39 #[.int .i64 (l k).f0, .int .i64 (l k).f1] ∧ Blk wr Q 39 #[.int .i64 (l (k + 1)).f0, .int .i64 (l (k + 1)).f1] ∧ Blk wr R 39 #[.int .i64 (l (k + c)).f0, .int .i64 (l (k + c)).f1] ∧ Blk wr S 39 #[.int .i64 (l (k + c + 1)).f0, .int .i64 (l (k + c + 1)).f1] ∧ Below w2.heap.size w2 wr)
  case first =>
    refine wp_region_puts 28 32 143 39 #[.int .i64 0, .int .i64 0] spotG aggC (by kernel_rfl) (by kernel_rfl) (by rfl) allocSpot storeSpot ?_
    simp only [List.take_succ_cons, List.take_zero, List.drop_succ_cons, List.drop_zero]
    repeat (go_big_quiet_step (fail))
    refine wpQuiet_nil ?_
    intro P Q R S
    refine ⟨⟨⟨_, _, rfl⟩, ⟨_, _, rfl⟩, ⟨_, _, rfl⟩, ⟨_, _, rfl⟩, True.intro⟩, ?_⟩
    rintro w5 hb5 ⟨⟨P', e1, _, z1⟩, ⟨Q', e2, _, z2⟩, ⟨R', e3, _, z3⟩, ⟨S', e4, _, z4⟩, -⟩
    have e1' : Value.pointer (some ⟨P, 0, none⟩) = .pointer (some ⟨P', 0, none⟩) := e1
    have e2' : Value.pointer (some ⟨Q, 0, none⟩) = .pointer (some ⟨Q', 0, none⟩) := e2
    have e3' : Value.pointer (some ⟨R, 0, none⟩) = .pointer (some ⟨R', 0, none⟩) := e3
    have e4' : Value.pointer (some ⟨S, 0, none⟩) = .pointer (some ⟨S', 0, none⟩) := e4
    injection e1' with e1'; injection e1' with e1'; injection e1' with e1'
    injection e2' with e2'; injection e2' with e2'; injection e2' with e2'
    injection e3' with e3'; injection e3' with e3'; injection e3' with e3'
    injection e4' with e4'; injection e4' with e4'; injection e4' with e4'
    subst e1' e2' e3' e4'
    simp only [Act.put, List.setIfInBounds_toArray, List.set_cons_succ, List.set_cons_zero]
    go_wp2_with fail
    go_meet
    exact ⟨P, Q, R, S, rfl, rfl, rfl, rfl, z1, z2, z3, z4, hb5⟩
  obtain ⟨P, Q, R', S, rfl, rfl, rfl, rfl, z1, z2, z3, z4, hb3⟩ := hcut
  obtain ⟨w3, rfl⟩ : ∃ q : World, q = wc := ⟨_, rfl⟩
  have y1' := y1.below hb3 ly1
  clear m0 m2 d10 d11 d20 d21 d30 d31 d40 d41 y0 y1 hq1 hq2 hq3 hq4 hq5 hq6 hw0 hw1 hw2
  have p1 := HPL.out k (by omega)
  have p2 := HPL.out (k + 1) (by omega)
  have p3 := HPL.out (k + c) (by omega)
  have p4 := HPL.out (k + c + 1) (by omega)
  rw [plane_iff] at p1 p2 p3 p4
  obtain ⟨⟨p10, p11⟩, p12, p13⟩ := p1
  obtain ⟨⟨p20, p21⟩, p22, p23⟩ := p2
  obtain ⟨⟨p30, p31⟩, p32, p33⟩ := p3
  obtain ⟨⟨p40, p41⟩, p42, p43⟩ := p4
  have fin := warp_fin (l := l) HK.out HI.out HJ.out
  have FIN := Lib.hid fin
  clear fin
  obtain ⟨X, hX⟩ : ∃ X, X = u * ((c : Int) - 1) - I * 1000000 := ⟨_, rfl⟩
  obtain ⟨Y, hY⟩ : ∃ Y, Y = v * ((r : Int) - 1) - J * 1000000 := ⟨_, rfl⟩
  rw [← hX] at f11 f12 FIN ⊢
  rw [← hY] at f21 f22 FIN ⊢
  have HX := Lib.hid hX
  have HY := Lib.hid hY
  clear hX hY
  obtain ⟨⟨v1, v2⟩, ⟨v3, v4⟩, ⟨v5, v6⟩, ⟨v7, v8⟩⟩ := mix_w f11 f12 f21 f22
  have t1 := mixS_bd p10 p11 p20 p21 p30 p31 p40 p41 f11 f12 f21 f22
  have t2 := mixS_bd p12 p13 p22 p23 p32 p33 p42 p43 f11 f12 f21 f22
  rw [mix_eq] at t1 t2
  obtain ⟨t11, t12⟩ := t1
  obtain ⟨t21, t22⟩ := t2
  unfold mix at FIN
  rw [mix_eq, mix_eq] at FIN
  go_wp2_with fail
  generalize (1000000 - X) * (1000000 - Y) = W1 at *
  generalize X * (1000000 - Y) = W2 at *
  generalize (1000000 - X) * Y = W3 at *
  generalize X * Y = W4 at *
  have s1a := term_bd p10 p11 v1
  have s1b := term_bd p12 p13 v1
  obtain ⟨s1a1, s1a2⟩ := s1a
  obtain ⟨s1b1, s1b2⟩ := s1b
  have s2a := term_bd p20 p21 v3
  have s2b := term_bd p22 p23 v3
  obtain ⟨s2a1, s2a2⟩ := s2a
  obtain ⟨s2b1, s2b2⟩ := s2b
  have s3a := term_bd p30 p31 v5
  have s3b := term_bd p32 p33 v5
  obtain ⟨s3a1, s3a2⟩ := s3a
  obtain ⟨s3b1, s3b2⟩ := s3b
  have s4a := term_bd p40 p41 v7
  have s4b := term_bd p42 p43 v7
  obtain ⟨s4a1, s4a2⟩ := s4a
  obtain ⟨s4b1, s4b2⟩ := s4b
  have g10 := z1.cell 0
  have g11 := z1.cell 1
  have g20 := z2.cell 0
  have g21 := z2.cell 1
  have g30 := z3.cell 0
  have g31 := z3.cell 1
  have g40 := z4.cell 0
  have g41 := z4.cell 1
  simp at g10 g11 g20 g21 g30 g31 g40 g41
  have l0 := y1'.lt
  have l1 := z1.lt
  have l2 := z2.lt
  have l3 := z3.lt
  have l4 := z4.lt
  refine wp_region_ext_tail 0 41 (by kernel_rfl) (by kernel_rfl) (fun d _ _ _ _ h => by cases d <;> exact h) ?_
  simp only [List.take_succ_cons, List.take_zero, List.drop_succ_cons, List.drop_zero]
  repeat (go_big_quiet_step ((go_at_call 63; exact quiet_ext (nearest_any _ _ (by omega) (by omega) (by omega) (by omega) _))))
  refine wpQuiet_nil ?_
  intro e1
  have hb6 := e1.below
  have x0' := y1'.below hb6 y1'.lt
  have e0 := x0'.cell 0
  have e2 := x0'.cell 1
  simp at e0 e2
  have l0' := x0'.lt
  have gf0 := x0'.frozen 0
  have gf1 := x0'.frozen 1
  have hbo2 := hbo.trans (hb3.mono hszo)
  have hbw : Below w.heap.size w e1.val := hbo2.trans (hb6.mono hbo2.size)
  clear s1a1 s1a2 s1b1 s1b2 s2a1 s2a2 s2b1 s2b2 s3a1 s3a2 s3b1 s3b2 s4a1 s4a2 s4b1 s4b2
  go_wp2_with fail
  refine bodyPost_ret (v := .agg #[.int .i64 (divr ((l k).f0 * W1 + (l (k + 1)).f0 * W2 + (l (k + c)).f0 * W3 + (l (k + c + 1)).f0 * W4) 1000000000000), .int .i64 (divr ((l k).f1 * W1 + (l (k + 1)).f1 * W2 + (l (k + c)).f1 * W3 + (l (k + c + 1)).f1 * W4) 1000000000000)]) (by simp [results, Try.results67, go_sem, e0, e2]) rfl ⟨by rw [FIN.out.1, FIN.out.2], ?_⟩
  repeat (first | with_reducible exact Below.refl _ _ | with_reducible assumption | with_reducible refine Below.setCell ?_ (by simp <;> omega) _ | with_reducible refine Below.alloc ?_ (by simp <;> omega) _ | with_reducible refine Below.drew ?_)
end Go.Proofs.Ytddcbieomklhnaa
