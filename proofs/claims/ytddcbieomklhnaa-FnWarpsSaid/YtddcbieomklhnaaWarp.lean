/- Where a point of an image lies. Conditions: a valid mesh, a point of the image. -/
import Derived.Test.YtddcbieomklhnaaMesh
import Derived.Test.YtddcbieomklhnaaRound
import Derived.Test.YtddcbieomklhnaaAppendStep
import Derived.Test.YtddcbieomklhnaaWarpMath
import Derived.Test.YtddcbieomklhnaaTail
import Derived.IntWalk
import Derived.Deep.RegionHeld3
import Derived.Deep.DeepCutAuto
import Derived.Test.YtddcbieomklhnaaMinMax
namespace Go.Proofs.Ytddcbieomklhnaa
open Go.RowKit Go.Lib Go.Ks

/-- coordinates of the plane, shares of the unit -/
def Co (a : Int) : Prop := -2000000 ≤ a ∧ a ≤ 2000000
def Un (a : Int) : Prop := 0 ≤ a ∧ a ≤ 1000000
theorem l11Mix_any (a b c d x y : Int) (ha : Co a) (hb : Co b) (hc : Co c) (hd : Co d) (hx : Un x) (hy : Un y) (w : World) :
    Calls Try.prog 86 #[.int .i64 a, .int .i64 b, .int .i64 c, .int .i64 d, .int .i64 x, .int .i64 y] w fun e w' => e = .returned (.int .i64 (mix a b c d x y)) ∧ Below w.heap.size w w' := by
  obtain ⟨ha1, ha2⟩ := ha
  obtain ⟨hb1, hb2⟩ := hb
  obtain ⟨hc1, hc2⟩ := hc
  obtain ⟨hd1, hd2⟩ := hd
  obtain ⟨hx1, hx2⟩ := hx
  obtain ⟨hy1, hy2⟩ := hy
  obtain ⟨⟨p1, p2⟩, p3, p4⟩ := part_bd (a := a) (x := 1000000 - x) (y := 1000000 - y) ha1 ha2 (by omega) (by omega) (by omega) (by omega)
  obtain ⟨⟨q1, q2⟩, q3, q4⟩ := part_bd (a := b) (x := x) (y := 1000000 - y) hb1 hb2 (by omega) (by omega) (by omega) (by omega)
  obtain ⟨⟨r1, r2⟩, r3, r4⟩ := part_bd (a := c) (x := 1000000 - x) (y := y) hc1 hc2 (by omega) (by omega) (by omega) (by omega)
  obtain ⟨⟨s1, s2⟩, s3, s4⟩ := part_bd (a := d) (x := x) (y := y) hd1 hd2 (by omega) (by omega) (by omega) (by omega)
  obtain ⟨t1, t2⟩ := mixS_bd ha1 ha2 hb1 hb2 hc1 hc2 hd1 hd2 hx1 hx2 hy1 hy2
  unfold mixS at t1 t2
  go_enter Try.func86, Try.ntmps86
  go_wp2_with fail
  refine (l01Div_any _ _ (by omega) (by omega) (by omega) (by omega) _).mono ?_
  rintro e w1 ⟨rfl, hbw⟩
  go_wp2_with fail
  go_ret
  exact ⟨ret_int (by unfold mix mixS; rfl), hbw⟩
/-- the four corners of a cell, read -/
def Corners (w : World) (b off : Nat) (k c : Nat) (l : Nat → SpotD) : Prop :=
  ∀ q, (q = k ∨ q = k + 1 ∨ q = k + c ∨ q = k + c + 1) → w.cell? ⟨b, off + q * 2, none⟩ = some (.int .i64 (l q).f0) ∧ w.cell? ⟨b, off + q * 2 + 1, none⟩ = some (.int .i64 (l q).f1)
theorem corners_of {w : World} {b off n k c : Nat} {l : Nat → SpotD} (hc : ∀ j, j < n * 2 → w.cell? ⟨b, off + j, none⟩ = some (SpotC l j)) (h : k + c + 1 < n) : Corners w b off k c l := fun q hq => by
  have hq' : q < n := by omega
  constructor
  · rw [hc _ (by omega), SpotC0]
  · rw [Nat.add_assoc, hc _ (by omega), SpotC1]

theorem warp_fin {c r k : Nat} {l : Nat → SpotD} {u v I J : Int} (hk : warpK c r u v = (k : Int)) (hI : warpI c u = I) (hJ : warpI r v = J) :
    warpX c r l u v = mix (l k).f0 (l (k + 1)).f0 (l (k + c)).f0 (l (k + c + 1)).f0 (u * ((c : Int) - 1) - I * 1000000) (v * ((r : Int) - 1) - J * 1000000) ∧
    warpY c r l u v = mix (l k).f1 (l (k + 1)).f1 (l (k + c)).f1 (l (k + c + 1)).f1 (u * ((c : Int) - 1) - I * 1000000) (v * ((r : Int) - 1) - J * 1000000) := by
  unfold warpX warpY warpF
  rw [hk, hI, hJ, Int.toNat_natCast, Int.toNat_natCast]
  exact ⟨rfl, rfl⟩
set_option maxRecDepth 100000 in
set_option maxHeartbeats 8000000 in
theorem l11Warp_any (B : Nat) (C R : Int) (A : Option Addr) (n cp : Nat) (l : Nat → SpotD) (u v : Int) (w : World) (ok : MeshOk C R n l) (hs : Sl w A (n * 2) (SpotC l)) (hm : MeshP w B C R A n cp) (hu : Un u) (hv : Un v) :
    Calls Try.prog 66 #[.pointer (some ⟨B, 0, none⟩), .int .i64 u, .int .i64 v] w fun e w' => e = .returned (.agg #[.int .i64 (warpX C R l u v), .int .i64 (warpY C R l u v)]) ∧ Below w.heap.size w w' := by
  obtain ⟨⟨hC1, hC2⟩, ⟨hR1, hR2⟩, hn, hpl⟩ := ok
  obtain ⟨hu1, hu2⟩ := hu
  obtain ⟨hv1, hv2⟩ := hv
  obtain ⟨c, rfl⟩ := Int.eq_ofNat_of_zero_le (by omega : 0 ≤ C)
  obtain ⟨r, rfl⟩ := Int.eq_ofNat_of_zero_le (by omega : 0 ≤ R)
  have HN := Lib.hid hn
  have a1 := warp_num hC1 hC2 hu1 hu2
  have a2 := warp_num hR1 hR2 hv1 hv2
  obtain ⟨a11, a12, a13⟩ := a1
  obtain ⟨a21, a22, a23⟩ := a2
  have i1 := warpI_bd hC1 hC2 hu1 hu2
  have i2 := warpI_bd hR1 hR2 hv1 hv2
  have f1 := warpF_bd hC1 hC2 hu1 hu2
  have f2 := warpF_bd hR1 hR2 hv1 hv2
  have k1 := warpK_bd hC1 hC2 hR1 hR2 hu1 hu2 hv1 hv2
  have hj : 0 ≤ warpI r v * (c : Int) ∧ warpI r v * (c : Int) ≤ 63 := by
    have := mul_bd (a := warpI r v) (b := (c : Int)) (m := 7) (n := 9) (by omega) (by omega) (by omega) (by omega) (by omega)
    exact ⟨Int.mul_nonneg (by omega) (by omega), by omega⟩
  obtain ⟨j1, j2⟩ := hj
  obtain ⟨i11, i12⟩ := i1
  obtain ⟨i21, i22⟩ := i2
  obtain ⟨f11, f12⟩ := f1
  obtain ⟨f21, f22⟩ := f2
  obtain ⟨k11, k12⟩ := k1
  unfold warpF at f11 f12 f21 f22
  obtain ⟨k, hk⟩ := Int.eq_ofNat_of_zero_le k11
  have hkn : k + c + 1 < n := by omega
  have HPL := Lib.hid hpl
  clear hpl
  have HK := Lib.hid hk
  unfold warpK at hk k11 k12
  obtain ⟨b, off, rfl, hb, hc⟩ := hs (by omega)
  have co := corners_of hc hkn
  clear hc
  have co1 := co k (.inl rfl)
  have co2 := co (k + 1) (.inr (.inl rfl))
  have co3 := co (k + c) (.inr (.inr (.inl rfl)))
  have co4 := co (k + c + 1) (.inr (.inr (.inr rfl)))
  clear co
  obtain ⟨c10, c11⟩ := co1
  obtain ⟨c20, c21⟩ := co2
  obtain ⟨c30, c31⟩ := co3
  obtain ⟨c40, c41⟩ := co4
  obtain ⟨mb, m0, m1, m2⟩ := hm
  go_enter Try.func66, Try.ntmps66
  go_wp2_with fail
  refine (l00Min_eq _ _ _).mono ?_
  rintro e w1 ⟨rfl, rfl⟩
  generalize hI : min (u * ((c : Int) - 1) / 1000000) ((c : Int) - 2) = I
  have eI : warpI c u = I := hI
  rw [eI] at i11 i12 f11 f12 hk k12
  have HI := Lib.hid eI
  clear hI eI
  go_wp2_with fail
  refine (l00Min_eq _ _ _).mono ?_
  rintro e w1 ⟨rfl, rfl⟩
  generalize hJ : min (v * ((r : Int) - 1) / 1000000) ((r : Int) - 2) = J
  have eJ : warpI r v = J := hJ
  rw [eJ] at i21 i22 f21 f22 j1 j2 hk k12
  have HJ := Lib.hid eJ
  clear hJ eJ
  have hk2 : (k : Int) < (n : Int) := by omega
  have hk3 : (k : Int) + 1 < (n : Int) := by omega
  have hk4 : (k : Int) + (c : Int) < (n : Int) := by omega
  have hk5 : (k : Int) + (c : Int) + 1 < (n : Int) := by omega
  clear hn
  go_wp2_with fail
  have hw1 : IntKind.i64.wrap ((k : Int) + (c : Int)) = (k : Int) + (c : Int) := IntWalk.i64_in _ (by omega)
  have hq1 : (0 : Int) ≤ (k : Int) + (c : Int) := by omega
  have hq2 : ((k : Int) + (c : Int)).toNat = k + c := by omega
  have hq3 : (0 : Int) ≤ (k : Int) + (c : Int) + 1 := by omega
  have hq4 : ((k : Int) + (c : Int) + 1).toNat = k + c + 1 := by omega
  have hw2 : IntKind.i64.wrap ((k : Int) + (c : Int) + 1) = (k : Int) + (c : Int) + 1 := IntWalk.i64_in _ (by omega)
  generalize hW : World.alloc (World.alloc (World.alloc w _) _) _ = w3
  have hb3 : Below w.heap.size w w3 := by rw [← hW]; repeat (first | with_reducible exact Below.refl _ _ | with_reducible assumption | with_reducible refine Below.setCell ?_ (by simp <;> omega) _ | with_reducible refine Below.alloc ?_ (by simp <;> omega) _ | with_reducible refine Below.drew ?_)
  have x0 : Blk w3 w.heap.size 39 #[.int .i64 0, .int .i64 0] := by rw [← hW]; exact ((Blk.new w _ _).alloc _).alloc _
  have x1 : Blk w3 (w.heap.size + 1) 39 #[.int .i64 (l k).f0, .int .i64 (l k).f1] := by
    have h := (Blk.new (w.alloc (.cells #[.int .i64 0, .int .i64 0] 39)) 39 #[.int .i64 (l k).f0, .int .i64 (l k).f1]).alloc (.cells #[.int .i64 (l (k + 1)).f0, .int .i64 (l (k + 1)).f1] 39)
    rw [hW] at h
    simpa using h
  have x2 : Blk w3 (w.heap.size + 1 + 1) 39 #[.int .i64 (l (k + 1)).f0, .int .i64 (l (k + 1)).f1] := by
    have h := Blk.new ((w.alloc (.cells #[.int .i64 0, .int .i64 0] 39)).alloc (.cells #[.int .i64 (l k).f0, .int .i64 (l k).f1] 39)) 39 #[.int .i64 (l (k + 1)).f0, .int .i64 (l (k + 1)).f1]
    rw [hW] at h
    simpa using h
  clear hW
  have hsz := hb3.size
  obtain ⟨oc, of⟩ := bcell hb3
  have n0 := (oc B 0 mb).trans m0
  have n2 := (oc B 2 mb).trans m2
  have d30 := (oc b (off + (k + c) * 2) hb).trans c30
  have d31 := (oc b (off + (k + c) * 2 + 1) hb).trans c31
  have d40 := (oc b (off + (k + c + 1) * 2) hb).trans c40
  have d41 := (oc b (off + (k + c + 1) * 2 + 1) hb).trans c41
  have lB : B < w3.heap.size := by omega
  have lb : b < w3.heap.size := by omega
  clear oc of m0 m1 m2 c10 c11 c20 c21 c30 c31 c40 c41
  go_region_held3 (fun w' => w'.cell? ⟨B, 0, none⟩ = some (.int .i64 (c : Int)) ∧ w'.cell? ⟨B, 2, none⟩ = some (.slice (some ⟨b, off, none⟩) n cp) ∧ w'.cell? ⟨b, off + (k + c) * 2, none⟩ = some (.int .i64 (l (k + c)).f0) ∧ w'.cell? ⟨b, off + (k + c) * 2 + 1, none⟩ = some (.int .i64 (l (k + c)).f1)) (go_keep) (first | fail)
  go_wp2_with fail
  generalize hW : World.drew (World.alloc w3 _) = w4
  have hb4 : Below w3.heap.size w3 w4 := by rw [← hW]; repeat (first | with_reducible exact Below.refl _ _ | with_reducible assumption | with_reducible refine Below.setCell ?_ (by simp <;> omega) _ | with_reducible refine Below.alloc ?_ (by simp <;> omega) _ | with_reducible refine Below.drew ?_)
  have y0 := x0.below hb4 x0.lt
  have y1 := x1.below hb4 x1.lt
  have y2 := x2.below hb4 x2.lt
  have y3 : Blk w4 w3.heap.size 39 #[.int .i64 (l (k + c)).f0, .int .i64 (l (k + c)).f1] := by rw [← hW]; exact Blk.new w3 _ _
  clear hW x0 x1 x2
  have hsz4 := hb4.size
  obtain ⟨oc, of⟩ := bcell hb4
  have q0 := (oc B 0 lB).trans n0
  have q2 := (oc B 2 lB).trans n2
  have e40 := (oc b (off + (k + c + 1) * 2) lb).trans d40
  have e41 := (oc b (off + (k + c + 1) * 2 + 1) lb).trans d41
  have lB4 : B < w4.heap.size := by omega
  have lb4 : b < w4.heap.size := by omega
  clear oc of n0 n2 d30 d31 d40 d41
  go_region_held3 (fun w' => w'.cell? ⟨B, 0, none⟩ = some (.int .i64 (c : Int)) ∧ w'.cell? ⟨B, 2, none⟩ = some (.slice (some ⟨b, off, none⟩) n cp) ∧ w'.cell? ⟨b, off + (k + c + 1) * 2, none⟩ = some (.int .i64 (l (k + c + 1)).f0) ∧ w'.cell? ⟨b, off + (k + c + 1) * 2 + 1, none⟩ = some (.int .i64 (l (k + c + 1)).f1)) (go_keep) (first | fail)
  go_wp2_with fail
  generalize hW : World.drew (World.alloc w4 _) = w5
  have hb5 : Below w4.heap.size w4 w5 := by rw [← hW]; repeat (first | with_reducible exact Below.refl _ _ | with_reducible assumption | with_reducible refine Below.setCell ?_ (by simp <;> omega) _ | with_reducible refine Below.alloc ?_ (by simp <;> omega) _ | with_reducible refine Below.drew ?_)
  have x0 := y0.below hb5 y0.lt
  have x1 := y1.below hb5 y1.lt
  have x2 := y2.below hb5 y2.lt
  have x3 := y3.below hb5 y3.lt
  have x4 : Blk w5 w4.heap.size 39 #[.int .i64 (l (k + c + 1)).f0, .int .i64 (l (k + c + 1)).f1] := by rw [← hW]; exact Blk.new w4 _ _
  clear hW y0 y1 y2 y3 q0 q2 e40 e41
  have hsz5 := hb5.size
  have p1 := HPL.out k (by omega)
  have p2 := HPL.out (k + 1) (by omega)
  have p3 := HPL.out (k + c) (by omega)
  have p4 := HPL.out (k + c + 1) (by omega)
  rw [plane_iff] at p1 p2 p3 p4
  have p10 : Co _ := p1.1
  have p11 : Co _ := p1.2
  have p20 : Co _ := p2.1
  have p21 : Co _ := p2.2
  have p30 : Co _ := p3.1
  have p31 : Co _ := p3.2
  have p40 : Co _ := p4.1
  have p41 : Co _ := p4.2
  have u1 : Un _ := ⟨f11, f12⟩
  have u2 : Un _ := ⟨f21, f22⟩
  clear p1 p2 p3 p4
  have g10 := x1.cell 0
  have g11 := x1.cell 1
  have g20 := x2.cell 0
  have g21 := x2.cell 1
  have g30 := x3.cell 0
  have g31 := x3.cell 1
  have g40 := x4.cell 0
  have g41 := x4.cell 1
  simp at g10 g11 g20 g21 g30 g31 g40 g41
  have l0 := x0.lt
  have l1 := x1.lt
  have l2 := x2.lt
  have l3 := x3.lt
  have l4 := x4.lt
  refine wp_region_ext_tail 0 23 (by kernel_rfl) (by kernel_rfl) (fun d _ _ _ _ h => by cases d <;> exact h) ?_
  simp only [List.take_succ_cons, List.take_zero, List.drop_succ_cons, List.drop_zero]
  repeat (go_big_quiet_step ((go_at_call 86; exact quiet_ext (l11Mix_any _ _ _ _ _ _ (by assumption) (by assumption) (by assumption) (by assumption) (by assumption) (by assumption) _))))
  refine wpQuiet_nil ?_
  intro e1
  have hb6 := e1.below
  have x0' := x0.below hb6 x0.lt
  have e0 := x0'.cell 0
  have e2 := x0'.cell 1
  simp at e0 e2
  have l0' := x0'.lt
  have gf0 := x0'.frozen 0
  have gf1 := x0'.frozen 1
  have hbw : Below w.heap.size w e1.val := ((hb3.trans (hb4.mono (by omega))).trans (hb5.mono (by omega))).trans (hb6.mono (by omega))
  have fin := warp_fin (l := l) HK.out HI.out HJ.out
  have FIN := Lib.hid fin
  clear fin
  go_wp2_with fail
  refine bodyPost_ret (v := .agg #[.int .i64 (mix (l k).f0 (l (k + 1)).f0 (l (k + c)).f0 (l (k + c + 1)).f0 (u * ((c : Int) - 1) - I * 1000000) (v * ((r : Int) - 1) - J * 1000000)), .int .i64 (mix (l k).f1 (l (k + 1)).f1 (l (k + c)).f1 (l (k + c + 1)).f1 (u * ((c : Int) - 1) - I * 1000000) (v * ((r : Int) - 1) - J * 1000000))]) (by simp [results, Try.results66, go_sem, e0, e2]) rfl ⟨by rw [FIN.out.1, FIN.out.2], ?_⟩
  repeat (first | with_reducible exact Below.refl _ _ | with_reducible assumption | with_reducible refine Below.setCell ?_ (by simp <;> omega) _ | with_reducible refine Below.alloc ?_ (by simp <;> omega) _ | with_reducible refine Below.drew ?_)

end Go.Proofs.Ytddcbieomklhnaa
