/- Functions of domes: ZoneShare, SpotOf, DirectionAt. Conditions: the arguments are int64; the variable sines holds its table. -/
import Derived.Test.YthjllledhcfnhaaGreatDoorDomeSpec
namespace Go.Ks
theorem zone_bd (lo hi : Int) : -2000000000 ≤ 1000 * (sine hi - sine lo) ∧ 1000 * (sine hi - sine lo) ≤ 2000000000 := by
  have := sine_bd hi
  have := sine_bd lo
  omega
def mSpotX (az alt : Int) : Int := if (inB az 0 359999 && inB alt 0 90000) then (spotV az alt).f0 else 0
def mSpotY (az alt : Int) : Int := if (inB az 0 359999 && inB alt 0 90000) then (spotV az alt).f1 else 0
def mSpotC (az alt : Int) : Int := if (inB az 0 359999 && inB alt 0 90000) then 0 else 2
theorem mSpot_no {az alt : Int} (h : (inB az 0 359999 && inB alt 0 90000) = false) : mSpotX az alt = 0 ∧ mSpotY az alt = 0 ∧ mSpotC az alt = 2 := by unfold mSpotX mSpotY mSpotC; rw [h]; exact ⟨rfl, rfl, rfl⟩
theorem mSpot_yes {az alt : Int} (h : (inB az 0 359999 && inB alt 0 90000) = true) : mSpotX az alt = (spotV az alt).f0 ∧ mSpotY az alt = (spotV az alt).f1 ∧ mSpotC az alt = 0 := by unfold mSpotX mSpotY mSpotC; rw [h]; exact ⟨rfl, rfl, rfl⟩
end Go.Ks
namespace Go.Proofs.YthjllledhcfnhaaGreatDoor
open Go.RowKit Go.Lib Go.Ks
set_option maxHeartbeats 1000000 in
theorem implZoneShare_any (lo hi : Int) (w : World) (h1 : -9223372036854775808 ≤ lo ∧ lo ≤ 9223372036854775807) (h2 : -9223372036854775808 ≤ hi ∧ hi ≤ 9223372036854775807) (hT : Tab w) :
    Calls Tryz.prog 28 #[.int .i64 lo, .int .i64 hi] w fun e w' => e = .returned (.tuple #[.int .i64 (mZoneV lo hi), .int .i64 (mZoneC lo hi)]) ∧ Below w.heap.size w w' := by
  cases i1 : inB lo 0 90000
  · have E := Lib.hid (mZone_no (lo := lo) (hi := hi) (fun h => by rw [h.1] at i1; cases i1))
    go_enter Tryz.func28, Tryz.ntmps28
    go_wp2_with fail
    refine (within_eq _ _ _ _).mono ?_
    rintro e w1 ⟨rfl, rfl⟩
    go_wp2_with fail
    go_ret2
    exact ⟨ret_tup E.out.1.symm E.out.2.symm, Below.refl _ _⟩
  cases i2 : inB hi lo 90000
  · have E := Lib.hid (mZone_no (lo := lo) (hi := hi) (fun h => by rw [h.2] at i2; cases i2))
    go_enter Tryz.func28, Tryz.ntmps28
    go_wp2_with fail
    refine (within_eq _ _ _ _).mono ?_
    rintro e w1 ⟨rfl, rfl⟩
    go_wp2_with fail
    refine (within_eq _ _ _ _).mono ?_
    rintro e w1 ⟨rfl, rfl⟩
    go_wp2_with fail
    go_ret2
    exact ⟨ret_tup E.out.1.symm E.out.2.symm, Below.refl _ _⟩
  have E := Lib.hid (mZone_yes ⟨i1, i2⟩)
  obtain ⟨z1, z2⟩ := zone_bd lo hi
  obtain ⟨s1, s2⟩ := sine_bd lo
  obtain ⟨s3, s4⟩ := sine_bd hi
  go_enter Tryz.func28, Tryz.ntmps28
  go_wp2_with fail
  refine (within_eq _ _ _ _).mono ?_
  rintro e w1 ⟨rfl, rfl⟩
  go_wp2_with fail
  refine (within_eq _ _ _ _).mono ?_
  rintro e w1 ⟨rfl, rfl⟩
  go_wp2_with fail
  refine (sineOf_any _ h2.1 h2.2 _ hT).mono ?_
  rintro e w1 ⟨rfl, hb1⟩
  go_wp2_with fail
  refine (sineOf_any _ h1.1 h1.2 _ (hT.below hb1)).mono ?_
  rintro e w2 ⟨rfl, hb2⟩
  go_wp2_with fail
  refine (nearest_any _ _ (by omega) (by omega) (by omega) (by omega) _).mono ?_
  rintro e w3 ⟨rfl, hb3⟩
  go_wp2_with fail
  go_ret2
  exact ⟨ret_tup (by rw [E.out.1]; rfl) E.out.2.symm, hb1.trans ((hb2.trans (hb3.mono hb2.size)).mono hb1.size)⟩
set_option maxRecDepth 100000 in
set_option maxHeartbeats 4000000 in
theorem implSpotOf_any (az alt : Int) (w : World) (_h1 : -9223372036854775808 ≤ az ∧ az ≤ 9223372036854775807) (_h2 : -9223372036854775808 ≤ alt ∧ alt ≤ 9223372036854775807) (hT : Tab w) :
    Calls Tryz.prog 21 #[.int .i64 az, .int .i64 alt] w fun e w' => e = .returned (.tuple #[.agg #[.int .i64 (mSpotX az alt), .int .i64 (mSpotY az alt)], .int .i64 (mSpotC az alt)]) ∧ Below w.heap.size w w' := by
  have HT := Lib.hid hT
  clear hT
  go_enter Tryz.func21, Tryz.ntmps21
  go_wp2_with fail
  generalize hW : World.alloc w _ = w1
  have HB : Below w.heap.size w w1 := by rw [← hW]; repeat (first | with_reducible exact Below.refl _ _ | with_reducible assumption | with_reducible refine Below.setCell ?_ (by simp <;> omega) _ | with_reducible refine Below.alloc ?_ (by simp <;> omega) _ | with_reducible refine Below.drew ?_)
  have x0 : Blk w1 w.heap.size 49 #[.int .i64 0, .int .i64 0] := by rw [← hW]; exact Blk.new w _ _
  clear hW
  refine (isDomeUp_eq _ _ _).mono ?_
  rintro e w2 ⟨rfl, rfl⟩
  cases up : upB az alt
  · have E := Lib.hid (mSpot_no (az := az) (alt := alt) up)
    have e0 := x0.cell 0
    have e1 := x0.cell 1
    simp at e0 e1
    have el := x0.lt
    have eg0 := x0.frozen 0
    have eg1 := x0.frozen 1
    go_wp2_with fail
    refine bodyPost_ret (v := .tuple #[.agg #[.int .i64 0, .int .i64 0], .int .i64 2]) (by simp [results, Tryz.results21, go_sem, e0, e1]) rfl ⟨ret_spot2 E.out.1.symm E.out.2.1.symm E.out.2.2.symm, ?_⟩
    repeat (first | with_reducible exact Below.refl _ _ | with_reducible assumption | with_reducible refine Below.setCell ?_ (by simp <;> omega) _ | with_reducible refine Below.alloc ?_ (by simp <;> omega) _ | with_reducible refine Below.drew ?_)
  · have E := Lib.hid (mSpot_yes (az := az) (alt := alt) up)
    obtain ⟨⟨u1, u2⟩, u3, u4⟩ := upB_iff.1 up
    obtain ⟨r0, r1⟩ := spotR_bd u3 u4
    obtain ⟨a1, a2⟩ := r_sine r0 r1 (sine_bd az)
    obtain ⟨b1, b2⟩ := r_sine r0 r1 (cosi_bd az)
    have hr : divr ((90000 - alt) * 1000000) 90000 = spotR alt := rfl
    have HR := Lib.hid hr
    clear hr
    go_wp2_with fail
    clear up
    refine (nearest_any _ _ (by omega) (by omega) (by omega) (by omega) _).mono ?_
    rintro e w3 ⟨rfl, hb3⟩
    replace HB := HB.trans (hb3.mono HB.size)
    replace x0 := x0.below hb3 x0.lt
    rw [HR.out]
    go_wp2_with fail
    refine (sineOf_any _ (by omega) (by omega) _ (HT.out.below HB)).mono ?_
    rintro e w4 ⟨rfl, hb4⟩
    replace HB := HB.trans (hb4.mono HB.size)
    replace x0 := x0.below hb4 x0.lt
    go_wp2_with fail
    refine (nearest_any _ _ (by omega) (by omega) (by omega) (by omega) _).mono ?_
    rintro e w5 ⟨rfl, hb5⟩
    replace HB := HB.trans (hb5.mono HB.size)
    replace x0 := x0.below hb5 x0.lt
    go_wp2_with fail
    refine (cosineOf_any _ (by omega) (by omega) _ (HT.out.below HB)).mono ?_
    rintro e w6 ⟨rfl, hb6⟩
    replace HB := HB.trans (hb6.mono HB.size)
    replace x0 := x0.below hb6 x0.lt
    go_wp2_with fail
    refine (nearest_any _ _ (by omega) (by omega) (by omega) (by omega) _).mono ?_
    rintro e w7 ⟨rfl, hb7⟩
    replace HB := HB.trans (hb7.mono HB.size)
    replace x0 := x0.below hb7 x0.lt
    have e0 := x0.cell 0
    have e1 := x0.cell 1
    simp at e0 e1
    have el := x0.lt
    have eg0 := x0.frozen 0
    have eg1 := x0.frozen 1
    go_wp2_with fail
    refine bodyPost_ret (v := .tuple #[.agg #[.int .i64 (spotV az alt).f0, .int .i64 (spotV az alt).f1], .int .i64 0]) (by simp [results, Tryz.results21, go_sem, e0, e1]; exact ⟨rfl, rfl⟩) rfl ⟨ret_spot2 E.out.1.symm E.out.2.1.symm E.out.2.2.symm, ?_⟩
    repeat (first | with_reducible exact Below.refl _ _ | with_reducible assumption | with_reducible refine Below.setCell ?_ (by simp <;> omega) _ | with_reducible refine Below.alloc ?_ (by simp <;> omega) _ | with_reducible refine Below.drew ?_)
end Go.Proofs.YthjllledhcfnhaaGreatDoor
