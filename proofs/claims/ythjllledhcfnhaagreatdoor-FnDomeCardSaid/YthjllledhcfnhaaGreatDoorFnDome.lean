/- FnDome returns true at every input. Conditions: those that the arguments meet; the variable sines and the library's tables hold what is laid. -/
import Derived.Test.YthjllledhcfnhaaGreatDoorDomeNum2
import Derived.Test.YthjllledhcfnhaaGreatDoorDrawDome
import Derived.Test.YthjllledhcfnhaaGreatDoorDomeTurn
import Derived.Test.YthjllledhcfnhaaGreatDoorDomeSpot
import Derived.Test.YthjllledhcfnhaaGreatDoorApart
import Derived.Test.YthjllledhcfnhaaGreatDoorTail
import Derived.Test.YthjllledhcfnhaaGreatDoorReadDomeI
import Derived.Deep.DeepCutAuto
import Derived.Test.YthjllledhcfnhaaGreatDoorSrc
import Derived.Test.YthjllledhcfnhaaGreatDoorUnwarp
import Derived.Test.YthjllledhcfnhaaGreatDoorDomeSpec
namespace Go.Ks
theorem atA_zero {x y : Int} (h1 : -1000000 ≤ x) (h2 : x ≤ 1000000) (h3 : -1000000 ≤ y) (h4 : y ≤ 1000000) (h : spotLen x y = 0) : atA x y = 0 := by
  obtain ⟨rfl, rfl⟩ := spot_zero h1 h2 h3 h4 h
  exact arct_zero
theorem at_div {r : Int} (h0 : 0 ≤ r) (h1 : r ≤ 1500000) : 0 ≤ divr (r * 90000) 1000000 ∧ divr (r * 90000) 1000000 ≤ 135000000000 := by
  have := divr_bd (a := r * 90000) (b := 1000000) (m := 135000000000) (by omega) (by omega) (by omega)
  exact ⟨divr_nonneg (by omega) (by omega), this.2⟩
end Go.Ks
namespace Go.Proofs.YthjllledhcfnhaaGreatDoor
open Go.RowKit Go.Lib Go.Ks
theorem disc_split (x y : Int) : (inB x (-1000000) 1000000 = false ∧ ¬ DiscOk x y) ∨ (inB x (-1000000) 1000000 = true ∧ inB y (-1000000) 1000000 = false ∧ ¬ DiscOk x y) ∨ (inB x (-1000000) 1000000 = true ∧ inB y (-1000000) 1000000 = true ∧ 1000000 < spotLen x y ∧ ¬ DiscOk x y) ∨ (inB x (-1000000) 1000000 = true ∧ inB y (-1000000) 1000000 = true ∧ spotLen x y ≤ 1000000 ∧ DiscOk x y) := by
  cases h1 : inB x (-1000000) 1000000
  · exact .inl ⟨rfl, fun h => by rw [h.1] at h1; cases h1⟩
  refine .inr ?_
  cases h2 : inB y (-1000000) 1000000
  · exact .inl ⟨rfl, rfl, fun h => by rw [h.2.1] at h2; cases h2⟩
  refine .inr ?_
  by_cases h3 : spotLen x y ≤ 1000000
  · exact .inr ⟨rfl, rfl, h3, h1, h2, h3⟩
  · exact .inl ⟨rfl, rfl, by omega, fun h => h3 h.2.2⟩
set_option maxHeartbeats 4000000 in
theorem implDirectionAt_any (x y : Int) (w : World) (_h1 : -9223372036854775808 ≤ x ∧ x ≤ 9223372036854775807) (_h2 : -9223372036854775808 ≤ y ∧ y ≤ 9223372036854775807) (hT : Tab w) :
    Calls Tryz.prog 22 #[.agg #[.int .i64 x, .int .i64 y]] w fun e w' => e = .returned (.tuple #[.int .i64 (mAtA x y), .int .i64 (mAtB x y), .int .i64 (mAtC x y)]) ∧ Below w.heap.size w w' := by
  have HT := Lib.hid hT
  clear hT
  have hb : Below w.heap.size w (w.alloc (.cells #[.int .i64 x, .int .i64 y] 49)) := (Below.refl _ _).alloc (Nat.le_refl _) _
  rcases disc_split x y with ⟨a, E⟩ | ⟨a, b, E⟩ | ⟨a, b, c, E⟩ | ⟨a, b, c, E⟩
  · have EE := Lib.hid (mAt_no E)
    clear E
    go_enter Tryz.func22, Tryz.ntmps22
    go_wp2_with fail
    refine (within_eq _ _ _ _).mono ?_
    rintro e w1 ⟨rfl, rfl⟩
    go_wp2_with fail
    (try simp only [Exit.inBlock, Exit.then])
    refine bodyPost_ret (results_t3 rfl _ _ _) rfl ?_
    exact ⟨ret_tup3 EE.out.1.symm EE.out.2.1.symm EE.out.2.2.symm, hb⟩
  · have EE := Lib.hid (mAt_no E)
    clear E
    go_enter Tryz.func22, Tryz.ntmps22
    go_wp2_with fail
    refine (within_eq _ _ _ _).mono ?_
    rintro e w1 ⟨rfl, rfl⟩
    go_wp2_with fail
    refine (within_eq _ _ _ _).mono ?_
    rintro e w1 ⟨rfl, rfl⟩
    go_wp2_with fail
    (try simp only [Exit.inBlock, Exit.then])
    refine bodyPost_ret (results_t3 rfl _ _ _) rfl ?_
    exact ⟨ret_tup3 EE.out.1.symm EE.out.2.1.symm EE.out.2.2.symm, hb⟩
  · have EE := Lib.hid (mAt_no E)
    clear E
    obtain ⟨x1, x2⟩ := inB_iff.1 a
    obtain ⟨y1, y2⟩ := inB_iff.1 b
    obtain ⟨s1, s2⟩ := spot_sq x1 x2
    obtain ⟨s3, s4⟩ := spot_sq y1 y2
    have hl : iroot (x * x + y * y) = spotLen x y := rfl
    have HL := Lib.hid hl
    clear hl
    go_enter Tryz.func22, Tryz.ntmps22
    go_wp2_with fail
    refine (within_eq _ _ _ _).mono ?_
    rintro e w1 ⟨rfl, rfl⟩
    go_wp2_with fail
    refine (within_eq _ _ _ _).mono ?_
    rintro e w1 ⟨rfl, rfl⟩
    go_wp2_with fail
    refine (rootOf_eq _ (by omega) _).mono ?_
    rintro e w1 ⟨rfl, rfl⟩
    rw [HL.out]
    go_wp2_with fail
    (try simp only [Exit.inBlock, Exit.then])
    refine bodyPost_ret (results_t3 rfl _ _ _) rfl ?_
    exact ⟨ret_tup3 EE.out.1.symm EE.out.2.1.symm EE.out.2.2.symm, hb⟩
  · have EE := Lib.hid (mAt_yes E)
    clear E
    obtain ⟨x1, x2⟩ := inB_iff.1 a
    obtain ⟨y1, y2⟩ := inB_iff.1 b
    obtain ⟨s1, s2⟩ := spot_sq x1 x2
    obtain ⟨s3, s4⟩ := spot_sq y1 y2
    obtain ⟨l1, l2⟩ := spotLen_bd x1 x2 y1 y2
    have hl : iroot (x * x + y * y) = spotLen x y := rfl
    have HL := Lib.hid hl
    clear hl
    have AZ := Lib.hid (atA_zero x1 x2 y1 y2)
    have hB : atB x y = 90000 - divr (spotLen x y * 90000) 1000000 := rfl
    have HBB := Lib.hid hB
    clear hB
    obtain ⟨R, hR⟩ : ∃ R, spotLen x y = R := ⟨_, rfl⟩
    rw [hR] at HL HBB AZ l1 l2 c
    clear hR
    obtain ⟨d1, d2⟩ := at_div l1 l2
    by_cases hr : 0 < R
    · go_enter Tryz.func22, Tryz.ntmps22
      go_wp2_with fail
      refine (within_eq _ _ _ _).mono ?_
      rintro e w1 ⟨rfl, rfl⟩
      go_wp2_with fail
      refine (within_eq _ _ _ _).mono ?_
      rintro e w1 ⟨rfl, rfl⟩
      go_wp2_with fail
      refine (rootOf_eq _ (by omega) _).mono ?_
      rintro e w1 ⟨rfl, rfl⟩
      rw [HL.out]
      go_wp2_with fail
      refine (arcTangent_any _ _ (by omega) (by omega) _ (HT.out.below hb)).mono ?_
      rintro e w3 ⟨rfl, hb3⟩
      have HB := hb.trans (hb3.mono hb.size)
      go_wp2_with fail
      refine (nearest_any _ _ (by omega) (by omega) (by omega) (by omega) _).mono ?_
      rintro e w4 ⟨rfl, hb4⟩
      go_wp2_with fail
      (try simp only [Exit.inBlock, Exit.then])
      refine bodyPost_ret (results_t3 rfl _ _ _) rfl ?_
      exact ⟨ret_tup3 EE.out.1.symm (by rw [EE.out.2.1, HBB.out]) EE.out.2.2.symm, HB.trans (hb4.mono HB.size)⟩
    · have hz : R = 0 := by omega
      have EA := Lib.hid (AZ.out hz)
      clear hz
      go_enter Tryz.func22, Tryz.ntmps22
      go_wp2_with fail
      refine (within_eq _ _ _ _).mono ?_
      rintro e w1 ⟨rfl, rfl⟩
      go_wp2_with fail
      refine (within_eq _ _ _ _).mono ?_
      rintro e w1 ⟨rfl, rfl⟩
      go_wp2_with fail
      refine (rootOf_eq _ (by omega) _).mono ?_
      rintro e w1 ⟨rfl, rfl⟩
      rw [HL.out]
      go_wp2_with fail
      refine (nearest_any _ _ (by omega) (by omega) (by omega) (by omega) _).mono ?_
      rintro e w4 ⟨rfl, hb4⟩
      go_wp2_with fail
      (try simp only [Exit.inBlock, Exit.then])
      refine bodyPost_ret (results_t3 rfl _ _ _) rfl ?_
      exact ⟨ret_tup3 (by rw [EE.out.1, EA.out]) (by rw [EE.out.2.1, HBB.out]) EE.out.2.2.symm, hb.trans (hb4.mono hb.size)⟩
end Go.Proofs.YthjllledhcfnhaaGreatDoor
namespace Go.Proofs.YthjllledhcfnhaaGreatDoor
open Go.RowKit Go.Lib Go.Ks
set_option maxHeartbeats 1000000 in
theorem r8Long_any (A1 : Option Addr) (n1 c1 : Nat) (A2 : Option Addr) (n2 c2 : Nat) (w : World) (h1 : n1 ≤ 9223372036854775807) (h2 : n2 ≤ 9223372036854775807) :
    Calls Tryz.prog 18 #[.slice A1 n1 c1, .slice A2 n2 c2] w fun e w' => e = .returned (.bool (decide (1048576 < n1 ∨ 1048576 < n2))) ∧ Below w.heap.size w w' := by
  by_cases q1 : 1048576 < n1
  · have q1' : (1048576 : Int) < (n1 : Int) := by omega
    go_enter Tryz.func18, Tryz.ntmps18
    go_wp2_with fail
    go_ret
    exact ⟨by first | rfl | exact ret_bool (by simp [q1]), by repeat (first | with_reducible exact Below.refl _ _ | with_reducible assumption | with_reducible refine Below.setCell ?_ (by simp <;> omega) _ | with_reducible refine Below.alloc ?_ (by simp <;> omega) _ | with_reducible refine Below.drew ?_)⟩
  · have q1' : ¬ (1048576 : Int) < (n1 : Int) := by omega
    by_cases q2 : 1048576 < n2
    · have q2' : (1048576 : Int) < (n2 : Int) := by omega
      go_enter Tryz.func18, Tryz.ntmps18
      go_wp2_with fail
      go_ret
      exact ⟨rfl, by repeat (first | with_reducible exact Below.refl _ _ | with_reducible assumption | with_reducible refine Below.setCell ?_ (by simp <;> omega) _ | with_reducible refine Below.alloc ?_ (by simp <;> omega) _ | with_reducible refine Below.drew ?_)⟩
    · have q2' : ¬ (1048576 : Int) < (n2 : Int) := by omega
      go_enter Tryz.func18, Tryz.ntmps18
      go_wp2_with fail
      go_ret
      exact ⟨rfl, by repeat (first | with_reducible exact Below.refl _ _ | with_reducible assumption | with_reducible refine Below.setCell ?_ (by simp <;> omega) _ | with_reducible refine Below.alloc ?_ (by simp <;> omega) _ | with_reducible refine Below.drew ?_)⟩
set_option maxHeartbeats 1000000 in
theorem r8At_any (A : Option Addr) (n c : Nat) (l : Nat → Int) (k : Nat) (m : Int) (w : World) (hn : n ≤ 1048576) (hk : k ≤ 1000) (hm : 2 ≤ m ∧ m ≤ 1000000) (hs : Sl w A (n * 1) (ByteC l)) (hl : ∀ j, j < n → 0 ≤ l j ∧ l j ≤ 255) :
    Calls Tryz.prog 56 #[.slice A n c, .int .i64 (k : Int), .int .i64 m] w fun e w' => (∃ x : Int, e = .returned (.int .i64 x) ∧ 0 ≤ x ∧ x < m) ∧ Below w.heap.size w w' := by
  obtain ⟨m1, m2⟩ := hm
  have hm' : ¬ m ≤ 1 := by omega
  by_cases q : k < n
  · have q' : ¬ (n : Int) ≤ (k : Int) := by omega
    have q2 : (k : Int) < (n : Int) := by omega
    have hn' : (n : Int) ≤ 1048576 := by omega
    obtain ⟨b, off, rfl, hlt, hc⟩ := hs (by omega)
    have d0 : w.cell? ⟨b, off + k, none⟩ = some (.int .u8 (l k)) := hc k (by omega)
    obtain ⟨b1, b2⟩ := hl k q
    clear hc hl
    go_enter Tryz.func56, Tryz.ntmps56
    go_wp2_with fail
    go_ret
    exact ⟨⟨_, rfl, Int.emod_nonneg _ (by omega), Int.emod_lt_of_pos _ (by omega)⟩, by repeat (first | with_reducible exact Below.refl _ _ | with_reducible assumption | with_reducible refine Below.setCell ?_ (by simp <;> omega) _ | with_reducible refine Below.alloc ?_ (by simp <;> omega) _ | with_reducible refine Below.drew ?_)⟩
  · have q' : (n : Int) ≤ (k : Int) := by omega
    have hn' : (n : Int) ≤ 1048576 := by omega
    clear hl
    go_enter Tryz.func56, Tryz.ntmps56
    go_wp2_with fail
    go_ret
    exact ⟨⟨0, rfl, by omega, by omega⟩, by repeat (first | with_reducible exact Below.refl _ _ | with_reducible assumption | with_reducible refine Below.setCell ?_ (by simp <;> omega) _ | with_reducible refine Below.alloc ?_ (by simp <;> omega) _ | with_reducible refine Below.drew ?_)⟩
set_option maxHeartbeats 1000000 in
theorem r8Wide_any (A : Option Addr) (n c : Nat) (l : Nat → Int) (k : Nat) (m : Int) (w : World) (hn : n ≤ 1048576) (hk : k ≤ 999) (hm : 2 ≤ m ∧ m ≤ 1000000) (hs : Sl w A (n * 1) (ByteC l)) (hl : ∀ j, j < n → 0 ≤ l j ∧ l j ≤ 255) :
    Calls Tryz.prog 20 #[.slice A n c, .int .i64 (k : Int), .int .i64 m] w fun e w' => (∃ x : Int, e = .returned (.int .i64 x) ∧ 0 ≤ x ∧ x < m) ∧ Below w.heap.size w w' := by
  obtain ⟨m1, m2⟩ := hm
  go_enter Tryz.func20, Tryz.ntmps20
  go_wp2_with fail
  refine (r8At_any A n c l k 256 _ hn (by omega) (by decide) hs hl).mono ?_
  rintro e w1 ⟨⟨x, rfl, x1, x2⟩, hb1⟩
  go_wp2_with fail
  refine (r8At_any A n c l (k + 1) 256 _ hn (by omega) (by decide) (hs.below hb1) hl).mono ?_
  rintro e w2 ⟨⟨y, rfl, y1, y2⟩, hb2⟩
  go_wp2_with fail
  go_ret
  exact ⟨⟨_, rfl, Int.emod_nonneg _ (by omega), Int.emod_lt_of_pos _ (by omega)⟩, hb1.trans (hb2.mono hb1.size)⟩
set_option maxHeartbeats 1000000 in
theorem r8Abs_eq (x : Int) (w : World) (hx : -4000000000000 ≤ x ∧ x ≤ 4000000000000) :
    Calls Tryz.prog 24 #[.int .i64 x] w fun e w' => e = .returned (.int .i64 (iabs x)) ∧ w' = w := by
  obtain ⟨x1, x2⟩ := hx
  by_cases q : x < 0
  · go_enter Tryz.func24, Tryz.ntmps24
    go_wp2_with fail
    all_goals go_ret
    all_goals exact ⟨ret_int (by unfold iabs; split <;> omega), rfl⟩
  · go_enter Tryz.func24, Tryz.ntmps24
    go_wp2_with fail
    all_goals go_ret
    all_goals exact ⟨ret_int (by unfold iabs; split <;> omega), rfl⟩
end Go.Proofs.YthjllledhcfnhaaGreatDoor
namespace Go.Proofs.YthjllledhcfnhaaGreatDoor
open Go.RowKit Go.Lib Go.Ks Go.Ks.Num
theorem angB_up (v : VectorD) : -90000 ≤ angB v ∧ angB v ≤ 90000 := by
  have h0 := iroot_nonneg (v.f0 * v.f0 + v.f1 * v.f1)
  unfold angB
  generalize iroot (v.f0 * v.f0 + v.f1 * v.f1) = h at *
  have b := arcB_bd v.f2 h
  have e : arct v.f2 h = arcB v.f2 h ∨ arct v.f2 h = nrm (-arcB v.f2 h) := by
    unfold arct
    by_cases z : 0 ≤ v.f2
    · exact .inl (if_pos ⟨h0, z⟩)
    · rw [if_neg (fun q => z q.2), if_neg z, if_neg (by omega)]
      exact .inr rfl
  rcases e with e | e
  · rw [e, if_neg (by omega)]; omega
  · rw [e]
    unfold nrm
    split <;> omega
theorem dot_of {a b : VectorD} (h : 1000000 ≤ rdot a b) : 1 ≤ dotV a b := by
  have := divr_mono (a := 1 * 1000000) (a' := rdot a b) (b := 1000000) (by decide) (by omega)
  rw [divr_mul (by decide)] at this
  exact this
theorem not_z {a b : VectorD} (h : 1000000 ≤ rdot a b) : ¬ isZ a ∧ ¬ isZ b := by
  constructor
  · rintro ⟨h0, h1, h2⟩
    unfold rdot at h
    rw [h0, h1, h2] at h
    simp at h
  · rintro ⟨h0, h1, h2⟩
    unfold rdot at h
    rw [h0, h1, h2] at h
    simp at h
theorem ok_of {a b : VectorD} (h : 1000000 ≤ rdot a b) : okV a b = true := by
  obtain ⟨z1, z2⟩ := not_z h
  refine okV_of (dot_of h) ?_ ?_
  · exact decide_eq_false z1
  · exact decide_eq_false z2
theorem w64_in {x : Int} (h : -9223372036854775808 ≤ x ∧ x ≤ 9223372036854775807) : wrap64 x = x := by unfold wrap64; omega
theorem l02Between_any (a b : Int) (ha : I64 a) (hb : I64 b) (w : World) :
    Calls Tryz.prog 63 #[.int .i64 a, .int .i64 b] w fun e w' => e = .returned (.int .i64 (betwA a b)) ∧ Below w.heap.size w w' := by
  have n1 := nrm_bd a
  have n2 := nrm_bd b
  have n3 := nrm_bd (nrm b - nrm a)
  obtain ⟨a1, a2⟩ := ha
  obtain ⟨b1, b2⟩ := hb
  go_enter Tryz.func63, Tryz.ntmps63
  go_wp2_with fail
  refine (l02Normal_any b b1 b2 _).mono ?_
  rintro e w1 ⟨rfl, hb1⟩
  go_wp2_with fail
  refine (l02Normal_any a a1 a2 _).mono ?_
  rintro e w2 ⟨rfl, hb2⟩
  have e1 : IntKind.i64.wrap (nrm b - nrm a) = nrm b - nrm a := by rw [IntKind.wrap_i64]; omega
  go_wp2_with fail
  refine (l02Normal_any (nrm b - nrm a) (by omega) (by omega) _).mono ?_
  rintro e w3 ⟨rfl, hb3⟩
  have e2 : IntKind.i64.wrap (360000 - nrm (nrm b - nrm a)) = 360000 - nrm (nrm b - nrm a) := by rw [IntKind.wrap_i64]; omega
  go_wp2_with fail
  refine (l00Min_eq _ _ _).mono ?_
  rintro e w4 ⟨rfl, rfl⟩
  go_wp2_with fail
  go_ret
  have HB := hb1.trans (hb2.mono hb1.size)
  exact ⟨rfl, HB.trans (hb3.mono HB.size)⟩
theorem angleBetween_any (a b : Int) (ha : I64 a) (hb : I64 b) (w : World) :
    Calls Tryz.prog 23 #[.int .i64 a, .int .i64 b] w fun e w' => e = .returned (.int .i64 (betwA a b)) ∧ Below w.heap.size w w' := by
  go_enter Tryz.func23, Tryz.ntmps23
  go_wp2_with fail
  refine (l02Between_any a b ha hb _).mono ?_
  rintro e w1 ⟨rfl, hb1⟩
  go_wp2_with fail
  go_ret
  exact ⟨rfl, hb1⟩
set_option maxHeartbeats 1000000 in
theorem domeArea_is {x : DomeD} {r : Int} (hx : DomB x) (hr : divr (628318 * x.f1 * x.f1) 100000 = r) (w : World) :
    Calls Tryz.prog 29 #[.agg #[.string x.f0, .int .i64 x.f1, .int .i64 x.f2]] w fun e w' => e = .returned (.tuple #[.int .i64 r, .int .i64 0]) ∧ Below w.heap.size w w' := by
  obtain ⟨h1, ⟨h2, h2'⟩, h3, h4⟩ := hx
  have sq : 0 ≤ 628318 * x.f1 * x.f1 ∧ 628318 * x.f1 * x.f1 ≤ 628318 * 11999 * 11999 := ⟨Int.mul_nonneg (by omega) (by omega), Int.mul_le_mul (by omega) (by omega) (by omega) (by omega)⟩
  obtain ⟨q1, q2⟩ := sq
  have NE := nearest_any (628318 * x.f1 * x.f1) 100000 (by omega) (by omega) (by omega) (by omega)
  rw [hr] at NE
  have NH := Lib.hid NE
  have H1 := Lib.hid h1
  have VD := Lib.hid (fun W => validDome_any x W (by omega))
  clear NE h1 hr
  go_enter Tryz.func29, Tryz.ntmps29
  go_wp2_with fail
  generalize hV : World.alloc w _ = w0
  have HB := bel_alloc hV
  have x0 := cells_alloc hV
  clear hV
  refine (VD.out _).mono ?_
  rintro e w1 ⟨rfl, hb1⟩
  rw [H1.out]
  have HB1 := HB.trans (hb1.mono HB.size)
  have x1 := x0.below hb1 x0.lt
  clear x0
  have d0 := x1.cell 0
  have d1 := x1.cell 1
  have d2 := x1.cell 2
  simp at d0 d1 d2
  have dl := x1.lt
  have e1 : IntKind.i64.wrap (628318 * x.f1) = 628318 * x.f1 := by rw [IntKind.wrap_i64]; omega
  go_wp2_with fail
  refine (NH.out _).mono ?_
  rintro e w2 ⟨rfl, hb2⟩
  go_wp2_with fail
  go_ret2
  exact ⟨rfl, HB1.trans (hb2.mono HB1.size)⟩
theorem area_bd {r : Int} (h0 : 3000 ≤ r) (h1 : r ≤ 11999) : 6 * r * r < divr (628318 * r * r) 100000 ∧ divr (628318 * r * r) 100000 < 7 * r * r := by
  have n := divr_near (a := 628318 * r * r) (b := 100000) (by decide)
  have rr : 9000000 ≤ r * r := by
    have := Int.mul_le_mul (a := 3000) (b := 3000) (c := r) (d := r) h0 h0 (by decide) (by omega)
    omega
  have e1 : 628318 * r * r = 628318 * (r * r) := by grind
  have e2 : 6 * r * r = 6 * (r * r) := by grind
  have e3 : 7 * r * r = 7 * (r * r) := by grind
  omega
theorem zone_two {alt : Int} (h0 : 0 ≤ alt) (h1 : alt ≤ 90000) : zoneV 0 90000 = 1000 ∧ iabs (zoneV 0 alt + zoneV alt 90000 - 1000) ≤ 1 ∧ (0 ≤ zoneV 0 alt ∧ zoneV 0 alt ≤ 1000) ∧ (0 ≤ zoneV alt 90000 ∧ zoneV alt 90000 ≤ 1000) := by
  refine ⟨by decide, ?_⟩
  have s := sine_q h0 h1
  have u := sinQ_unit h0 h1
  have e0 : sine 0 = 0 := by decide
  have e9 : sine 90000 = 1000000 := by decide
  unfold zoneV
  rw [s.1, e0, e9]
  have n1 := divr_near (a := 1000 * (sinQ alt - 0)) (b := 1000000) (by decide)
  have n2 := divr_near (a := 1000 * (1000000 - sinQ alt)) (b := 1000000) (by decide)
  exact ⟨iabs_of (by omega) (by omega), ⟨by omega, by omega⟩, by omega, by omega⟩
theorem zone_is {lo hi v : Int} (h0 : 0 ≤ lo) (h1 : lo ≤ hi) (h2 : hi ≤ 90000) (hv : zoneV lo hi = v) (w : World) (hT : Tab w) :
    Calls Tryz.prog 28 #[.int .i64 lo, .int .i64 hi] w fun e w' => e = .returned (.tuple #[.int .i64 v, .int .i64 0]) ∧ Below w.heap.size w w' := by
  have h := implZoneShare_any lo hi w (by omega) (by omega) hT
  obtain ⟨e1, e2⟩ := mZone_yes (lo := lo) (hi := hi) ⟨inB_iff.2 ⟨h0, by omega⟩, inB_iff.2 ⟨h1, h2⟩⟩
  rw [e1, e2, hv] at h
  exact h
theorem spot_is {az alt X Y : Int} (ha : 0 ≤ az ∧ az ≤ 359999) (hl : 0 ≤ alt ∧ alt ≤ 90000) (hx : (spotV az alt).f0 = X) (hy : (spotV az alt).f1 = Y) (w : World) (hT : Tab w) :
    Calls Tryz.prog 21 #[.int .i64 az, .int .i64 alt] w fun e w' => e = .returned (.tuple #[.agg #[.int .i64 X, .int .i64 Y], .int .i64 0]) ∧ Below w.heap.size w w' := by
  have h := implSpotOf_any az alt w (by omega) (by omega) hT
  unfold mSpotX mSpotY mSpotC at h
  rw [inB_iff.2 ha, inB_iff.2 hl] at h
  simp only [Bool.and_self, if_true] at h
  rw [hx, hy] at h
  exact h
theorem at_is {X Y A B : Int} (hX : -1000000 ≤ X ∧ X ≤ 1000000) (hY : -1000000 ≤ Y ∧ Y ≤ 1000000) (ok : DiscOk X Y) (hA : atA X Y = A) (hB : atB X Y = B) (w : World) (hT : Tab w) :
    Calls Tryz.prog 22 #[.agg #[.int .i64 X, .int .i64 Y]] w fun e w' => e = .returned (.tuple #[.int .i64 A, .int .i64 B, .int .i64 0]) ∧ Below w.heap.size w w' := by
  have h := implDirectionAt_any X Y w (by omega) (by omega) hT
  obtain ⟨e1, e2, e3⟩ := mAt_yes ok
  rw [e1, e2, e3, hA, hB] at h
  exact h
theorem tilt_is {x : DomeD} {az alt u v : Int} (hx : DomB x) (ha : 0 ≤ az ∧ az ≤ 359999) (hl : -90000 ≤ alt ∧ alt ≤ 90000) (hu : tiltA az alt x.f2 = u) (hv : tiltB az alt x.f2 = v) (w : World) (hT : Tab w) :
    Calls Tryz.prog 25 #[.agg #[.string x.f0, .int .i64 x.f1, .int .i64 x.f2], .int .i64 az, .int .i64 alt] w fun e w' => e = .returned (.tuple #[.int .i64 u, .int .i64 v, .int .i64 0]) ∧ Below w.heap.size w w' := by
  obtain ⟨h1, h2, h3, h4⟩ := hx
  have h := implTiltedDirection_any x.f0 x.f1 x.f2 az alt w (by omega) (by omega) (by omega) (by omega) (by omega) hT
  have e : (⟨x.f0, x.f1, x.f2⟩ : DomeD) = x := rfl
  have d : dirB az alt = true := by unfold dirB; rw [inB_iff.2 ha, inB_iff.2 hl]; rfl
  unfold mTiltedA mTiltedB mDirC sel code2 at h
  rw [e, h1, d] at h
  simp only [Bool.and_self, if_true] at h
  rw [hu, hv] at h
  exact h
theorem level_is {x : DomeD} {az alt u v : Int} (hx : DomB x) (ha : 0 ≤ az ∧ az ≤ 359999) (hl : -90000 ≤ alt ∧ alt ≤ 90000) (hu : tiltA az alt (-x.f2) = u) (hv : tiltB az alt (-x.f2) = v) (w : World) (hT : Tab w) :
    Calls Tryz.prog 26 #[.agg #[.string x.f0, .int .i64 x.f1, .int .i64 x.f2], .int .i64 az, .int .i64 alt] w fun e w' => e = .returned (.tuple #[.int .i64 u, .int .i64 v, .int .i64 0]) ∧ Below w.heap.size w w' := by
  obtain ⟨h1, h2, h3, h4⟩ := hx
  have h := implLevelDirection_any x.f0 x.f1 x.f2 az alt w (by omega) (by omega) (by omega) (by omega) (by omega) hT
  have e : (⟨x.f0, x.f1, x.f2⟩ : DomeD) = x := rfl
  have d : dirB az alt = true := by unfold dirB; rw [inB_iff.2 ha, inB_iff.2 hl]; rfl
  unfold mLevelA mLevelB mDirC sel code2 at h
  rw [e, h1, d] at h
  simp only [Bool.and_self, if_true] at h
  rw [hu, hv] at h
  exact h
theorem tx_ok {x : DomeD} (hx : DomB x) : Tx.domeB x = true := Tx.domeB_yes (domeB_iff.1 hx.1)
theorem dtext_is {x : DomeD} {s : ByteArray} (hx : DomB x) (hs : Tx.domeTx x = s) (w : World) (hT : Tx.Tab w) :
    Calls Tryz.prog 31 #[.agg #[.string x.f0, .int .i64 x.f1, .int .i64 x.f2]] w fun e w' => e = .returned (.string s) ∧ Below w.heap.size w w' := by
  have h1 := hx.2.1
  have h3 := hx.2.2.1
  have h := Tx.implDomeText_any x.f0 x.f1 x.f2 w (by omega) (by omega) (by have := hx.2.2.2; omega) hT
  have e : (⟨x.f0, x.f1, x.f2⟩ : DomeD) = x := rfl
  unfold Tx.mDT at h
  rw [e, if_pos (tx_ok hx), hs] at h
  exact h
theorem dread_is {x : DomeD} {s : ByteArray} (hx : DomB x) (hs : Tx.domeTx x = s) (w : World) (hT : Tx.LibV w) :
    Calls Tryz.prog 30 #[.string s] w fun e w' => e = .returned (.tuple #[.agg #[.string x.f0, .int .i64 x.f1, .int .i64 x.f2], .bool true]) ∧ Below w.heap.size w w' := by
  have sz : s.size ≤ 1048576 := by
    have h2 := Go.Ks.Tx.list2_size (a := x.f1) (b := x.f2) (by have := hx.2.1; omega) (by have := hx.2.2.2; omega)
    have h3 := hx.2.2.1
    rw [← hs]
    unfold Tx.domeTx
    rw [ByteArray.size_append, ByteArray.size_append]
    have e : (⟨#[32]⟩ : ByteArray).size = 1 := rfl
    omega
  refine (Tx.implReadDome_any s w sz hT).mono ?_
  rintro e w' ⟨h, hb⟩
  have y := Tx.retRD_yes (s := s) (x := x) ⟨tx_ok hx, hs⟩
  unfold Tx.RetRD at h y
  exact ⟨h.trans y.symm, hb⟩
theorem Tryz.domeStood2 : Tryz.prog.stoodInHeld 46 = false := by kernel_rfl
theorem domeEq (a : ByteArray) (x y : Int) (w : World) : (Op.equalIn 10000 46 (.agg #[.string a, .int .i64 x, .int .i64 y]) (.agg #[.string a, .int .i64 x, .int .i64 y])).run Tryz.prog w = .ok true w := by
  have hst := Tryz.domeStood2
  simp [go_sem, hst]
set_option maxRecDepth 100000 in
set_option maxHeartbeats 8000000 in
theorem fnDome_any (A0 : Option Addr) (n0 c0 : Nat) (l0 : Nat → Int) (A1 : Option Addr) (n1 c1 : Nat) (l1 : Nat → Int) (w : World) (b0 : n0 ≤ 9223372036854775807) (s0 : Sl w A0 (n0 * 1) (ByteC l0)) (g0 : ∀ k, k < n0 → 0 ≤ l0 k ∧ l0 k ≤ 255) (b1 : n1 ≤ 9223372036854775807) (s1 : Sl w A1 (n1 * 1) (ByteC l1)) (g1 : ∀ k, k < n1 → 0 ≤ l1 k ∧ l1 k ≤ 255) (hT : Tab w) (hL : Tx.LibV w) :
    Calls Tryz.prog 4 #[.slice A0 n0 c0, .slice A1 n1 c1] w fun e w' => e = .returned (.bool true) ∧ Below w.heap.size w w' := by
  go_enter Tryz.func4, Tryz.ntmps4
  go_wp2_with fail
  refine (r8Long_any A0 n0 c0 A1 n1 c1 _ b0 b1).mono ?_
  rintro e w1 ⟨rfl, HB⟩
  by_cases q : 1048576 < n0 ∨ 1048576 < n1
  · rw [decide_eq_true q]
    go_wp2_with fail
    go_ret
    exact ⟨rfl, HB⟩
  · rw [decide_eq_false q]
    have m0 : n0 ≤ 1048576 := by omega
    have m1 : n1 ≤ 1048576 := by omega
    have S0 := Lib.hid s0
    have S1 := Lib.hid s1
    have G0 := Lib.hid g0
    have G1 := Lib.hid g1
    have HT := Lib.hid hT
    have HLL := Lib.hid hL
    clear q s0 s1 g0 g1 hT hL
    go_wp2_with fail
    refine (r8Dome_any A0 n0 c0 l0 _ m0 (S0.out.below HB) G0.out).mono ?_
    rintro e w2 ⟨⟨x, rfl, hx⟩, hb2⟩
    replace HB := HB.trans (hb2.mono HB.size)
    clear hb2
    have HX := Lib.hid hx
    obtain ⟨_, ⟨r0, r1⟩, _⟩ := hx
    go_wp2_with fail
    generalize hV : World.alloc _ _ = w3
    have hb3 := bel_alloc hV
    have xD := cells_alloc hV
    clear hV
    replace HB := HB.trans (hb3.mono HB.size)
    clear hb3
    have cD0 := xD.cell 0
    have cD1 := xD.cell 1
    have cD2 := xD.cell 2
    simp at cD0 cD1 cD2
    have cDl := xD.lt
    go_wp2_with fail
    refine (r8Wide_any A1 n1 c1 l1 0 60000 _ m1 (by omega) (by decide) (S1.out.below HB) G1.out).mono ?_
    rintro e w4 ⟨⟨a, rfl, a0, a1⟩, hb4⟩
    replace HB := HB.trans (hb4.mono HB.size)
    clear cD0 cD1 cD2 cDl
    replace xD := xD.below hb4 xD.lt
    have cD0 := xD.cell 0
    have cD1 := xD.cell 1
    have cD2 := xD.cell 2
    simp at cD0 cD1 cD2
    have cDl := xD.lt
    clear hb4
    have wa : IntKind.i64.wrap (6 * a) = 6 * a := by rw [IntKind.wrap_i64]; omega
    go_wp2_with fail
    refine (r8Wide_any A1 n1 c1 l1 2 40000 _ m1 (by omega) (by decide) (S1.out.below HB) G1.out).mono ?_
    rintro e w5 ⟨⟨h, rfl, h0, h1⟩, hb5⟩
    replace HB := HB.trans (hb5.mono HB.size)
    clear cD0 cD1 cD2 cDl
    replace xD := xD.below hb5 xD.lt
    have cD0 := xD.cell 0
    have cD1 := xD.cell 1
    have cD2 := xD.cell 2
    simp at cD0 cD1 cD2
    have cDl := xD.lt
    clear hb5
    have wh : IntKind.i64.wrap (2 * h) = 2 * h := by rw [IntKind.wrap_i64]; omega
    have q1 : 0 ≤ 2 * h := by omega
    have q2 : 2 * h ≤ 79998 := by omega
    have AZ := at_az (az := 6 * a) (alt := 2 * h) q1 q2
    have AL := at_alt (az := 6 * a) (alt := 2 * h) q1 q2
    obtain ⟨DK, AL⟩ := AL
    obtain ⟨X, hX⟩ : ∃ X, (spotV (6 * a) (2 * h)).f0 = X := ⟨_, rfl⟩
    obtain ⟨Y, hY⟩ : ∃ Y, (spotV (6 * a) (2 * h)).f1 = Y := ⟨_, rfl⟩
    rw [hX, hY] at AZ AL DK
    have HXX := Lib.hid hX
    have HYY := Lib.hid hY
    have HDK := Lib.hid DK
    have xb := inB_iff.1 DK.1
    have yb := inB_iff.1 DK.2.1
    clear hX hY DK
    obtain ⟨aa, haa⟩ : ∃ t, atA X Y = t := ⟨_, rfl⟩
    obtain ⟨al, hal⟩ : ∃ t, atB X Y = t := ⟨_, rfl⟩
    have aab : 0 ≤ aa ∧ aa ≤ 359999 := by rw [← haa]; exact arct_bd X Y
    rw [haa] at AZ
    rw [hal] at AL
    have HAA := Lib.hid haa
    have HAL := Lib.hid hal
    clear haa hal
    obtain ⟨AL1, AL2⟩ := iabs_in AL
    go_wp2_with fail
    refine (spot_is ⟨by omega, by omega⟩ ⟨by omega, by omega⟩ HXX.out HYY.out _ (HT.out.below HB)).mono ?_
    rintro e w6 ⟨rfl, hb6⟩
    replace HB := HB.trans (hb6.mono HB.size)
    clear cD0 cD1 cD2 cDl
    replace xD := xD.below hb6 xD.lt
    have cD0 := xD.cell 0
    have cD1 := xD.cell 1
    have cD2 := xD.cell 2
    simp at cD0 cD1 cD2
    have cDl := xD.lt
    clear hb6
    go_wp2_with fail
    generalize hV : World.alloc _ _ = w7
    have hb7 := bel_alloc hV
    have xP := cells_alloc hV
    clear hV
    replace HB := HB.trans (hb7.mono HB.size)
    clear cD0 cD1 cD2 cDl
    replace xD := xD.below hb7 xD.lt
    have cD0 := xD.cell 0
    have cD1 := xD.cell 1
    have cD2 := xD.cell 2
    simp at cD0 cD1 cD2
    have cDl := xD.lt
    clear hb7
    have cP0 := xP.cell 0
    have cP1 := xP.cell 1
    simp at cP0 cP1
    have cPl := xP.lt
    go_wp2_with fail
    refine (at_is xb yb HDK.out HAA.out HAL.out _ (HT.out.below HB)).mono ?_
    rintro e w8 ⟨rfl, hb8⟩
    replace HB := HB.trans (hb8.mono HB.size)
    clear cD0 cD1 cD2 cDl
    replace xD := xD.below hb8 xD.lt
    have cD0 := xD.cell 0
    have cD1 := xD.cell 1
    have cD2 := xD.cell 2
    simp at cD0 cD1 cD2
    have cDl := xD.lt
    clear cP0 cP1 cPl
    replace xP := xP.below hb8 xP.lt
    have cP0 := xP.cell 0
    have cP1 := xP.cell 1
    simp at cP0 cP1
    have cPl := xP.lt
    clear hb8
    clear cP0 cP1 cPl
    clear xP
    obtain ⟨bw, hbw⟩ : ∃ t, betwA aa (6 * a) = t := ⟨_, rfl⟩
    rw [hbw] at AZ
    have BW := fun W => angleBetween_any aa (6 * a) ⟨by omega, by omega⟩ ⟨by omega, by omega⟩ W
    simp only [hbw] at BW
    have BWH := Lib.hid BW
    clear hbw BW
    have nb1 : ¬ 10 < bw := by omega
    obtain ⟨ia, hia⟩ : ∃ t, iabs (al - 2 * h) = t := ⟨_, rfl⟩
    rw [hia] at AL
    have ABS := fun W => r8Abs_eq (al - 2 * h) W (by omega)
    simp only [hia] at ABS
    have ABH := Lib.hid ABS
    clear hia ABS
    have nb2 : ¬ 4 < ia := by omega
    have wf : IntKind.i64.wrap (al - 2 * h) = al - 2 * h := by rw [IntKind.wrap_i64]; omega
    go_wp2_with fail
    refine (BWH.out _).mono ?_
    rintro e w9 ⟨rfl, hb9⟩
    replace HB := HB.trans (hb9.mono HB.size)
    clear cD0 cD1 cD2 cDl
    replace xD := xD.below hb9 xD.lt
    have cD0 := xD.cell 0
    have cD1 := xD.cell 1
    have cD2 := xD.cell 2
    simp at cD0 cD1 cD2
    have cDl := xD.lt
    clear hb9
    go_wp2_with fail
    refine (ABH.out _).mono ?_
    rintro e wz ⟨rfl, rfl⟩
    obtain ⟨u, hu⟩ : ∃ t, tiltA (6 * a) (2 * h) x.f2 = t := ⟨_, rfl⟩
    obtain ⟨v, hv⟩ : ∃ t, tiltB (6 * a) (2 * h) x.f2 = t := ⟨_, rfl⟩
    have LN := level_near (az := 6 * a) (alt := 2 * h) HX.out.2.2.2
    rw [hu, hv] at LN
    have ub : 0 ≤ u ∧ u ≤ 359999 := by rw [← hu]; exact nrm_bd _
    have vb : -90000 ≤ v ∧ v ≤ 90000 := by rw [← hv]; exact angB_up _
    obtain ⟨rr, hrr⟩ : ∃ t, tiltA u v (-x.f2) = t := ⟨_, rfl⟩
    obtain ⟨ss, hss⟩ : ∃ t, tiltB u v (-x.f2) = t := ⟨_, rfl⟩
    rw [hrr, hss] at LN
    have rb : 0 ≤ rr ∧ rr ≤ 359999 := by rw [← hrr]; exact nrm_bd _
    have sb : -90000 ≤ ss ∧ ss ≤ 90000 := by rw [← hss]; exact angB_up _
    have HU := Lib.hid hu
    have HV := Lib.hid hv
    have HR := Lib.hid hrr
    have HS := Lib.hid hss
    clear hu hv hrr hss
    obtain ⟨LN1, LN2⟩ := LN
    obtain ⟨ap, hap⟩ : ∃ t, sepV (dirV (6 * a) (2 * h)) (dirV rr ss) = t := ⟨_, rfl⟩
    rw [hap] at LN1
    have AP := Lib.hid hap
    have LNN := Lib.hid LN2
    clear hap LN2
    have VB := Lib.hid vb
    have SB := Lib.hid sb
    clear vb sb
    go_wp2_with fail
    refine (tilt_is HX.out ⟨by omega, by omega⟩ ⟨by omega, by omega⟩ HU.out HV.out _ (HT.out.below HB)).mono ?_
    rintro e w10 ⟨rfl, hb10⟩
    replace HB := HB.trans (hb10.mono HB.size)
    clear cD0 cD1 cD2 cDl
    replace xD := xD.below hb10 xD.lt
    have cD0 := xD.cell 0
    have cD1 := xD.cell 1
    have cD2 := xD.cell 2
    simp at cD0 cD1 cD2
    have cDl := xD.lt
    clear hb10
    go_wp2_with fail
    refine (level_is HX.out ub VB.out HR.out HS.out _ (HT.out.below HB)).mono ?_
    rintro e w11 ⟨rfl, hb11⟩
    replace HB := HB.trans (hb11.mono HB.size)
    clear cD0 cD1 cD2 cDl
    replace xD := xD.below hb11 xD.lt
    have cD0 := xD.cell 0
    have cD1 := xD.cell 1
    have cD2 := xD.cell 2
    simp at cD0 cD1 cD2
    have cDl := xD.lt
    clear hb11
    have nb3 : ¬ 40 < ap := by omega
    go_wp2_with fail
    refine (r8Apart_is (6 * a) (2 * h) rr ss ap ⟨by omega, by omega⟩ ⟨by omega, by omega⟩ ⟨by omega, by omega⟩ SB.out (ok_of (by have := LNN.out; omega)) AP.out _).mono ?_
    rintro e w12 ⟨rfl, hb12⟩
    replace HB := HB.trans (hb12.mono HB.size)
    clear cD0 cD1 cD2 cDl
    replace xD := xD.below hb12 xD.lt
    have cD0 := xD.cell 0
    have cD1 := xD.cell 1
    have cD2 := xD.cell 2
    simp at cD0 cD1 cD2
    have cDl := xD.lt
    clear hb12
    obtain ⟨z0, z1, ⟨z2, z3⟩, z4, z5⟩ := zone_two (alt := 2 * h) (by omega) (by omega)
    obtain ⟨lo, hlo⟩ : ∃ t, zoneV 0 (2 * h) = t := ⟨_, rfl⟩
    obtain ⟨hi, hhi⟩ : ∃ t, zoneV (2 * h) 90000 = t := ⟨_, rfl⟩
    rw [hlo, hhi] at z1
    rw [hlo] at z2 z3
    rw [hhi] at z4 z5
    have HLO := Lib.hid hlo
    have HHI := Lib.hid hhi
    have HZ0 := Lib.hid z0
    clear hlo hhi z0
    go_wp2_with fail
    refine (zone_is (by decide) (by omega) (by omega) HLO.out _ (HT.out.below HB)).mono ?_
    rintro e w13 ⟨rfl, hb13⟩
    replace HB := HB.trans (hb13.mono HB.size)
    clear cD0 cD1 cD2 cDl
    replace xD := xD.below hb13 xD.lt
    have cD0 := xD.cell 0
    have cD1 := xD.cell 1
    have cD2 := xD.cell 2
    simp at cD0 cD1 cD2
    have cDl := xD.lt
    clear hb13
    go_wp2_with fail
    refine (zone_is (by omega) (by omega) (by decide) HHI.out _ (HT.out.below HB)).mono ?_
    rintro e w14 ⟨rfl, hb14⟩
    replace HB := HB.trans (hb14.mono HB.size)
    clear cD0 cD1 cD2 cDl
    replace xD := xD.below hb14 xD.lt
    have cD0 := xD.cell 0
    have cD1 := xD.cell 1
    have cD2 := xD.cell 2
    simp at cD0 cD1 cD2
    have cDl := xD.lt
    clear hb14
    go_wp2_with fail
    refine (zone_is (by decide) (by decide) (by decide) HZ0.out _ (HT.out.below HB)).mono ?_
    rintro e w15 ⟨rfl, hb15⟩
    replace HB := HB.trans (hb15.mono HB.size)
    clear cD0 cD1 cD2 cDl
    replace xD := xD.below hb15 xD.lt
    have cD0 := xD.cell 0
    have cD1 := xD.cell 1
    have cD2 := xD.cell 2
    simp at cD0 cD1 cD2
    have cDl := xD.lt
    clear hb15
    obtain ⟨ar, har⟩ : ∃ t, divr (628318 * x.f1 * x.f1) 100000 = t := ⟨_, rfl⟩
    have AB := area_bd r0 r1
    rw [har] at AB
    obtain ⟨ab1, ab2⟩ := AB
    have HAR := Lib.hid har
    clear har
    go_wp2_with fail
    refine (domeArea_is HX.out HAR.out _).mono ?_
    rintro e w16 ⟨rfl, hb16⟩
    replace HB := HB.trans (hb16.mono HB.size)
    clear cD0 cD1 cD2 cDl
    replace xD := xD.below hb16 xD.lt
    have cD0 := xD.cell 0
    have cD1 := xD.cell 1
    have cD2 := xD.cell 2
    simp at cD0 cD1 cD2
    have cDl := xD.lt
    clear hb16
    obtain ⟨s, hs⟩ : ∃ s, Tx.domeTx x = s := ⟨_, rfl⟩
    have TX := Lib.hid hs
    clear hs
    go_wp2_with fail
    refine (dtext_is HX.out TX.out _ (HLL.out.below HB).1).mono ?_
    rintro e w17 ⟨rfl, hb17⟩
    replace HB := HB.trans (hb17.mono HB.size)
    clear cD0 cD1 cD2 cDl
    replace xD := xD.below hb17 xD.lt
    have cD0 := xD.cell 0
    have cD1 := xD.cell 1
    have cD2 := xD.cell 2
    simp at cD0 cD1 cD2
    have cDl := xD.lt
    clear hb17
    go_wp2_with fail
    refine (dread_is HX.out TX.out _ (HLL.out.below HB)).mono ?_
    rintro e w18 ⟨rfl, hb18⟩
    replace HB := HB.trans (hb18.mono HB.size)
    clear cD0 cD1 cD2 cDl
    replace xD := xD.below hb18 xD.lt
    have cD0 := xD.cell 0
    have cD1 := xD.cell 1
    have cD2 := xD.cell 2
    simp at cD0 cD1 cD2
    have cDl := xD.lt
    clear hb18
    have ABS := fun W => r8Abs_eq (lo + hi - 1000) W (by omega)
    obtain ⟨iz, hiz⟩ : ∃ t, iabs (lo + hi - 1000) = t := ⟨_, rfl⟩
    rw [hiz] at z1
    simp only [hiz] at ABS
    have ABZ := Lib.hid ABS
    clear hiz ABS
    have w5 : IntKind.i64.wrap (lo + hi) = lo + hi := by rw [IntKind.wrap_i64]; omega
    have w6 : IntKind.i64.wrap (lo + hi - 1000) = lo + hi - 1000 := by rw [IntKind.wrap_i64]; omega
    have sq : 0 ≤ x.f1 * x.f1 ∧ x.f1 * x.f1 ≤ 11999 * 11999 := ⟨Int.mul_nonneg (by omega) (by omega), Int.mul_le_mul (by omega) (by omega) (by omega) (by omega)⟩
    have e6 : 6 * x.f1 * x.f1 = 6 * (x.f1 * x.f1) := by grind
    have e7 : 7 * x.f1 * x.f1 = 7 * (x.f1 * x.f1) := by grind
    have b6 : 0 ≤ 6 * x.f1 * x.f1 ∧ 6 * x.f1 * x.f1 ≤ 1000000000 := by omega
    have b7 : 0 ≤ 7 * x.f1 * x.f1 ∧ 7 * x.f1 * x.f1 ≤ 1100000000 := by omega
    clear e6 e7 sq
    obtain ⟨b60, b61⟩ := b6
    obtain ⟨b70, b71⟩ := b7
    have w7 : IntKind.i64.wrap (6 * x.f1 * x.f1) = 6 * x.f1 * x.f1 := by rw [IntKind.wrap_i64]; omega
    have w8 : IntKind.i64.wrap (7 * x.f1 * x.f1) = 7 * x.f1 * x.f1 := by rw [IntKind.wrap_i64]; omega
    go_wp2_with fail
    generalize hV : World.alloc _ _ = w19
    have hb19 := bel_alloc hV
    have xR := cells_alloc hV
    clear hV
    replace HB := HB.trans (hb19.mono HB.size)
    clear cD0 cD1 cD2 cDl
    replace xD := xD.below hb19 xD.lt
    have cD0 := xD.cell 0
    have cD1 := xD.cell 1
    have cD2 := xD.cell 2
    simp at cD0 cD1 cD2
    have cDl := xD.lt
    clear hb19
    have cR0 := xR.cell 0
    have cR1 := xR.cell 1
    have cR2 := xR.cell 2
    simp at cR0 cR1 cR2
    have cRl := xR.lt
    have hq := domeEq x.f0 x.f1 x.f2
    go_wp2_with fail
    refine (ABZ.out _).mono ?_
    rintro e wz ⟨rfl, rfl⟩
    go_wp2_with fail
    go_ret
    exact ⟨rfl, HB⟩
end Go.Proofs.YthjllledhcfnhaaGreatDoor
