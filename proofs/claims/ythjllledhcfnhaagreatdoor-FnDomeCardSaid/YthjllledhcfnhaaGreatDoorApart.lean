/- The angle between two directions: the laws' own helper, and the reference's functions that it calls. Conditions: the altitudes are altitudes. -/
import Derived.Test.YthjllledhcfnhaaGreatDoorVecSpec
import Derived.Test.YthjllledhcfnhaaGreatDoorSmallEq
namespace Go.Proofs.YthjllledhcfnhaaGreatDoor
open Go.RowKit Go.Lib Go.Ks
theorem l04Ok_yes (a : VectorD) (ha : Vb 2000000 a) (w : World) :
    Calls Tryz.prog 103 #[.agg #[.int .i64 a.f0, .int .i64 a.f1, .int .i64 a.f2]] w fun e w' => e = .returned (.bool true) ∧ Below w.heap.size w w' := by
  obtain ⟨h0, h1, h2⟩ := ha
  have i0 := inB_iff.2 h0
  have i1 := inB_iff.2 h1
  have i2 := inB_iff.2 h2
  go_enter Tryz.func103, Tryz.ntmps103
  go_wp2_with fail
  refine (l00In_eq _ _ _ _).mono ?_
  rintro e w1 ⟨rfl, rfl⟩
  rw [i0]
  go_wp2_with fail
  refine (l00In_eq _ _ _ _).mono ?_
  rintro e w1 ⟨rfl, rfl⟩
  rw [i1]
  go_wp2_with fail
  refine (l00In_eq _ _ _ _).mono ?_
  rintro e w1 ⟨rfl, rfl⟩
  rw [i2]
  go_wp2_with fail
  go_ret
  exact ⟨rfl, by repeat (first | with_reducible exact Below.refl _ _ | with_reducible assumption | with_reducible refine Below.setCell ?_ (by simp <;> omega) _ | with_reducible refine Below.alloc ?_ (by simp <;> omega) _ | with_reducible refine Below.drew ?_)⟩
set_option maxHeartbeats 1000000 in
theorem directionOf_is (lon lat : Int) (h1 : I64 lon) (h2 : -90000 ≤ lat ∧ lat ≤ 90000) (w : World) :
    Calls Tryz.prog 67 #[.int .i64 lon, .int .i64 lat] w fun e w' => e = .returned (.tuple #[.agg #[.int .i64 (dirV lon lat).f0, .int .i64 (dirV lon lat).f1, .int .i64 (dirV lon lat).f2], .int .i64 0]) ∧ Below w.heap.size w w' := by
  have i0 := inB_iff.2 h2
  have H1 := Lib.hid h1
  have H2 := Lib.hid h2
  clear h1 h2
  go_enter Tryz.func67, Tryz.ntmps67
  go_wp2_with fail
  generalize hV : World.alloc w _ = w0
  have HB : Below w.heap.size w w0 := by rw [← hV]; exact (Below.refl _ _).alloc (Nat.le_refl _) _
  have r0 : Blk w0 w.heap.size 97 #[.int .i64 0, .int .i64 0, .int .i64 0] := by rw [← hV]; exact Blk.new w _ _
  clear hV
  refine (l00In_eq _ _ _ _).mono ?_
  rintro e w1 ⟨rfl, rfl⟩
  rw [i0]
  go_wp2_with fail
  refine (l04Direction_any lon lat H1.out ⟨by have := H2.out; omega, by have := H2.out; omega⟩ _).mono ?_
  rintro e w2 ⟨rfl, hb2⟩
  have r2 := r0.below hb2 r0.lt
  have HB2 := HB.trans (hb2.mono HB.size)
  have u0 := r2.cell 0
  have u1 := r2.cell 1
  have u2 := r2.cell 2
  simp at u0 u1 u2
  have ul := r2.lt
  have ug0 := r2.frozen 0
  have ug1 := r2.frozen 1
  have ug2 := r2.frozen 2
  go_wp2_with fail
  have k := ((r2.set_ 0 (.int .i64 (dirV lon lat).f0)).set_ 1 (.int .i64 (dirV lon lat).f1)).set_ 2 (.int .i64 (dirV lon lat).f2)
  have v0 := k.cell 0
  have v1 := k.cell 1
  have v2 := k.cell 2
  simp at v0 v1 v2
  have vl := k.lt
  refine bodyPost_ret (v := .tuple #[.agg #[.int .i64 (dirV lon lat).f0, .int .i64 (dirV lon lat).f1, .int .i64 (dirV lon lat).f2], .int .i64 0]) (by simp [results, Tryz.results67, go_sem, v0, v1, v2]) rfl ?_
  exact ⟨rfl, ((HB2.setCell (p := ⟨w.heap.size, 0, none⟩) (Nat.le_refl _) _).setCell (p := ⟨w.heap.size, 1, none⟩) (Nat.le_refl _) _).setCell (p := ⟨w.heap.size, 2, none⟩) (Nat.le_refl _) _⟩
set_option maxHeartbeats 2000000 in
theorem separation_is (a b : VectorD) (ha : Vb 2000000 a) (hb : Vb 2000000 b) (ok : okV a b = true) (w : World) :
    Calls Tryz.prog 68 #[.agg #[.int .i64 a.f0, .int .i64 a.f1, .int .i64 a.f2], .agg #[.int .i64 b.f0, .int .i64 b.f1, .int .i64 b.f2]] w fun e w' => e = .returned (.tuple #[.int .i64 (sepV a b), .int .i64 0]) ∧ Below w.heap.size w w' := by
  have HA := Lib.hid ha
  have HB0 := Lib.hid hb
  have OK := Lib.hid ok
  clear ha hb ok
  go_enter Tryz.func68, Tryz.ntmps68
  go_wp2_with fail
  generalize hV : World.alloc (World.alloc w _) _ = w0
  have HB : Below w.heap.size w w0 := by rw [← hV]; exact ((Below.refl _ _).alloc (Nat.le_refl _) _).alloc (by simp) _
  have a0 : Blk w0 w.heap.size 97 #[.int .i64 a.f0, .int .i64 a.f1, .int .i64 a.f2] := by rw [← hV]; exact (Blk.new w _ _).alloc _
  have b0 : Blk w0 (w.heap.size + 1) 97 #[.int .i64 b.f0, .int .i64 b.f1, .int .i64 b.f2] := by have h := Blk.new (w.alloc (.cells #[.int .i64 a.f0, .int .i64 a.f1, .int .i64 a.f2] 97)) 97 #[.int .i64 b.f0, .int .i64 b.f1, .int .i64 b.f2]; rw [hV] at h; simpa using h
  clear hV
  refine (l04Ok_yes a HA.out _).mono ?_
  rintro e w1 ⟨rfl, hb1⟩
  have HB1 := HB.trans (hb1.mono HB.size)
  have a1 := a0.below hb1 a0.lt
  have b1 := b0.below hb1 b0.lt
  clear a0 b0
  have v0 := b1.cell 0
  have v1 := b1.cell 1
  have v2 := b1.cell 2
  simp at v0 v1 v2
  have vl := b1.lt
  go_wp2_with fail
  refine (l04Ok_yes b HB0.out _).mono ?_
  rintro e w2 ⟨rfl, hb2⟩
  have HB2 := HB1.trans (hb2.mono HB1.size)
  have a2 := a1.below hb2 a1.lt
  have b2 := b1.below hb2 b1.lt
  clear a1 b1 v0 v1 v2 vl
  have u0 := a2.cell 0
  have u1 := a2.cell 1
  have u2 := a2.cell 2
  simp at u0 u1 u2
  have ul := a2.lt
  have v0 := b2.cell 0
  have v1 := b2.cell 1
  have v2 := b2.cell 2
  simp at v0 v1 v2
  have vl := b2.lt
  go_wp2_with fail
  refine (l04Away_any a b HA.out HB0.out _).mono ?_
  rintro e w3 ⟨rfl, hb3⟩
  rw [OK.out]
  go_wp2_with fail
  go_ret2
  exact ⟨rfl, HB2.trans (hb3.mono HB2.size)⟩
theorem okV_of {a b : VectorD} (h : 1 ≤ dotV a b) (ha : zeroB a = false) (hb : zeroB b = false) : okV a b = true := by
  unfold okV
  rw [ha, hb, decide_eq_false (show ¬ dotV a b = 0 by omega)]
  simp
set_option maxHeartbeats 2000000 in
theorem r8Apart_is (az alt oz ol d : Int) (h1 : I64 az) (h2 : -90000 ≤ alt ∧ alt ≤ 90000) (h3 : I64 oz) (h4 : -90000 ≤ ol ∧ ol ≤ 90000) (ok : okV (dirV az alt) (dirV oz ol) = true) (hd : sepV (dirV az alt) (dirV oz ol) = d) (w : World) :
    Calls Tryz.prog 27 #[.int .i64 az, .int .i64 alt, .int .i64 oz, .int .i64 ol] w fun e w' => e = .returned (.int .i64 d) ∧ Below w.heap.size w w' := by
  have H1 := Lib.hid h1
  have H2 := Lib.hid h2
  have H3 := Lib.hid h3
  have H4 := Lib.hid h4
  have OK := Lib.hid ok
  have HD := Lib.hid hd
  clear h1 h2 h3 h4 ok hd
  go_enter Tryz.func27, Tryz.ntmps27
  go_wp2_with fail
  refine (directionOf_is az alt H1.out H2.out _).mono ?_
  rintro e w1 ⟨rfl, HB1⟩
  have va := (dirV_bd az alt).mono (n := 2000000) (by decide)
  have vb := (dirV_bd oz ol).mono (n := 2000000) (by decide)
  go_wp2_with fail
  generalize hV : World.alloc w1 _ = w2
  have hb2 : Below w1.heap.size w1 w2 := by rw [← hV]; exact (Below.refl _ _).alloc (Nat.le_refl _) _
  have a2 : Blk w2 w1.heap.size 97 #[.int .i64 (dirV az alt).f0, .int .i64 (dirV az alt).f1, .int .i64 (dirV az alt).f2] := by rw [← hV]; exact Blk.new w1 _ _
  have HB2 := HB1.trans (hb2.mono HB1.size)
  clear hV
  refine (directionOf_is oz ol H3.out H4.out _).mono ?_
  rintro e w3 ⟨rfl, hb3⟩
  have a3 := a2.below hb3 a2.lt
  have HB3 := HB2.trans (hb3.mono HB2.size)
  clear a2
  have SEP := separation_is (dirV az alt) (dirV oz ol) va vb OK.out
  rw [HD.out] at SEP
  have SH := Lib.hid SEP
  clear va vb SEP
  generalize dirV az alt = p at *
  generalize dirV oz ol = q at *
  have u0 := a3.cell 0
  have u1 := a3.cell 1
  have u2 := a3.cell 2
  simp at u0 u1 u2
  have ul := a3.lt
  go_wp2_with fail
  generalize hV : World.alloc w3 _ = w4
  have hb4 : Below w3.heap.size w3 w4 := by rw [← hV]; exact (Below.refl _ _).alloc (Nat.le_refl _) _
  have HB4 := HB3.trans (hb4.mono HB3.size)
  clear hV
  refine (SH.out _).mono ?_
  rintro e w5 ⟨rfl, hb5⟩
  go_wp2_with fail
  go_ret
  exact ⟨rfl, HB4.trans (hb5.mono HB4.size)⟩
end Go.Proofs.YthjllledhcfnhaaGreatDoor
