/- BrightnessAt. Conditions: the slice reads as projectors; the variable sines holds its table. -/
import Derived.Test.YtkjnpnijplnoaaaDoorBright
import Derived.Test.YtkjnpnijplnoaaaDoorShare
namespace Go.Proofs.YtkjnpnijplnoaaaDoor
open Go.RowKit Go.Lib Go.Ks
noncomputable def mBrV (n : Nat) (l : Nat → ProjectorD) (az alt : Int) : Int := if projsB n l = true ∧ upB az alt = true then brightX n l az alt else 0
noncomputable def mBrC (n : Nat) (l : Nat → ProjectorD) (az alt : Int) : Int := if projsB n l = true then (if upB az alt = true then brightC n l az alt else 2) else 1
section
variable {n : Nat} {l : Nat → ProjectorD} {az alt : Int}
theorem mBr_no (q : projsB n l = false) : mBrV n l az alt = 0 ∧ mBrC n l az alt = 1 := by simp [mBrV, mBrC, q]
theorem mBr_out (q : projsB n l = true) (q' : upB az alt = false) : mBrV n l az alt = 0 ∧ mBrC n l az alt = 2 := by simp [mBrV, mBrC, q, q']
theorem mBr_in (q : projsB n l = true) (q' : upB az alt = true) : mBrV n l az alt = brightX n l az alt ∧ mBrC n l az alt = brightC n l az alt := by simp [mBrV, mBrC, q, q']
end
theorem bool_cases (b : Bool) : b = false ∨ b = true := by cases b <;> simp
set_option maxHeartbeats 1000000 in
theorem specBrightnessAt_any (A : Option Addr) (n c : Nat) (l : Nat → ProjectorD) (az alt : Int) (w : World) (hn : n ≤ 1048576) (hs : Sl w A (n * 5) (ProjectorC l)) (hg : ∀ k, k < n → ProjectorOk (l k)) (ha : -9223372036854775808 ≤ az ∧ az ≤ 9223372036854775807) (hl : -9223372036854775808 ≤ alt ∧ alt ≤ 9223372036854775807) :
    Calls Tryd.prog 28 #[.slice A n c, .int .i64 az, .int .i64 alt] w fun e w' => e = .returned (.tuple #[.int .i64 (mBrV n l az alt), .int .i64 (mBrC n l az alt)]) ∧ Below w.heap.size w w' := by
  rcases bool_cases (projsB n l) with q | q
  · have E := Lib.hid (mBr_no (az := az) (alt := alt) q)
    go_enter Tryd.func28, Tryd.ntmps28
    go_wp2_with fail
    refine (l10Ok_any _ _ _ l _ hn hs hg).mono ?_
    rintro e w1 ⟨rfl, hb1⟩
    go_wp2_with fail
    go_ret2
    exact ⟨ret_tup E.out.1.symm E.out.2.symm, hb1⟩
  rcases bool_cases (upB az alt) with q' | q'
  · have E := Lib.hid (mBr_out q q')
    go_enter Tryd.func28, Tryd.ntmps28
    go_wp2_with fail
    refine (l10Ok_any _ _ _ l _ hn hs hg).mono ?_
    rintro e w1 ⟨rfl, hb1⟩
    go_wp2_with fail
    refine (l10Spot_eq _ _ _).mono ?_
    rintro e w1 ⟨rfl, rfl⟩
    go_wp2_with fail
    go_ret2
    exact ⟨ret_tup E.out.1.symm E.out.2.symm, hb1⟩
  have E := Lib.hid (mBr_in q q')
  have OK := Lib.hid (projs_all q)
  have HF : ∀ k, k < n → 5000 ≤ (l k).f3 := fun k hk => (proj_dir (OK.out.2 k hk)).2.2.1.1
  have HPW : ∀ k, k < n → 1 ≤ (l k).f4 ∧ (l k).f4 ≤ 1000 := fun k hk => (proj_dir (OK.out.2 k hk)).2.2.2
  go_enter Tryd.func28, Tryd.ntmps28
  go_wp2_with fail
  refine (l10Ok_any _ _ _ l _ hn hs hg).mono ?_
  rintro e w1 ⟨rfl, hb1⟩
  go_wp2_with fail
  refine (l10Spot_eq _ _ _).mono ?_
  rintro e w1 ⟨rfl, rfl⟩
  go_wp2_with fail
  clear q q'
  refine (l04Direction_any _ _ ha hl _).mono ?_
  rintro e w2 ⟨rfl, hb2⟩
  have HB2 := hb1.trans (hb2.mono hb1.size)
  go_wp2_with fail
  refine (l10Bright_any _ _ _ l az alt _ OK.out.1 (hs.below HB2) OK.out.2).mono ?_
  rintro e w3 ⟨rfl, hb3⟩
  have HB3 := HB2.trans (hb3.mono HB2.size)
  by_cases z : rawS l az alt n = 0
  · have EX := Lib.hid (And.intro (show brightX n l az alt = 0 from if_pos z) (show brightC n l az alt = 3 from if_pos z))
    rw [show brightB n l az alt = -1 from if_pos z]
    go_wp2_with fail
    go_ret2
    exact ⟨ret_tup (by rw [E.out.1, EX.out.1]) (by rw [E.out.2, EX.out.2]), HB3⟩
  · have EX := Lib.hid (And.intro (show brightX n l az alt = brightV n l az alt from if_neg z) (show brightC n l az alt = 0 from if_neg z))
    rw [show brightB n l az alt = brightV n l az alt from if_neg z]
    obtain ⟨b0, b1⟩ := bright_bd (az := az) (alt := alt) OK.out.1 HF HPW z
    go_wp2_with fail
    go_ret2
    exact ⟨ret_tup (by rw [E.out.1, EX.out.1]) (by rw [E.out.2, EX.out.2]), HB3⟩
set_option maxHeartbeats 1000000 in
theorem implBrightnessAt_any (A : Option Addr) (n c : Nat) (l : Nat → ProjectorD) (az alt : Int) (w : World) (hn : n ≤ 1048576) (hs : Sl w A (n * 5) (ProjectorC l)) (hg : ∀ k, k < n → ProjectorOk (l k)) (ha : -9223372036854775808 ≤ az ∧ az ≤ 9223372036854775807) (hl : -9223372036854775808 ≤ alt ∧ alt ≤ 9223372036854775807) (hT : Tab w) :
    Calls Tryd.prog 29 #[.slice A n c, .int .i64 az, .int .i64 alt] w fun e w' => e = .returned (.tuple #[.int .i64 (mBrV n l az alt), .int .i64 (mBrC n l az alt)]) ∧ Below w.heap.size w w' := by
  have HT := Lib.hid hT
  clear hT
  rcases bool_cases (projsB n l) with q | q
  · have E := Lib.hid (mBr_no (az := az) (alt := alt) q)
    go_enter Tryd.func29, Tryd.ntmps29
    go_wp2_with fail
    refine (validProjectors_any _ _ _ l _ hn hs hg).mono ?_
    rintro e w1 ⟨rfl, hb1⟩
    go_wp2_with fail
    go_ret2
    exact ⟨ret_tup E.out.1.symm E.out.2.symm, hb1⟩
  rcases bool_cases (upB az alt) with q' | q'
  · have E := Lib.hid (mBr_out q q')
    go_enter Tryd.func29, Tryd.ntmps29
    go_wp2_with fail
    refine (validProjectors_any _ _ _ l _ hn hs hg).mono ?_
    rintro e w1 ⟨rfl, hb1⟩
    go_wp2_with fail
    refine (isDomeUp_eq _ _ _).mono ?_
    rintro e w1 ⟨rfl, rfl⟩
    go_wp2_with fail
    go_ret2
    exact ⟨ret_tup E.out.1.symm E.out.2.symm, hb1⟩
  have E := Lib.hid (mBr_in q q')
  have OK := Lib.hid (projs_all q)
  go_enter Tryd.func29, Tryd.ntmps29
  go_wp2_with fail
  refine (validProjectors_any _ _ _ l _ hn hs hg).mono ?_
  rintro e w1 ⟨rfl, hb1⟩
  go_wp2_with fail
  refine (isDomeUp_eq _ _ _).mono ?_
  rintro e w1 ⟨rfl, rfl⟩
  go_wp2_with fail
  refine (brightnessAt_any _ _ _ l az alt _ OK.out.1 (hs.below hb1) OK.out.2 ha hl (HT.out.below hb1)).mono ?_
  rintro e w2 ⟨rfl, hb2⟩
  go_wp2_with fail
  go_ret2
  exact ⟨ret_tup E.out.1.symm E.out.2.symm, hb1.trans (hb2.mono hb1.size)⟩
end Go.Proofs.YtkjnpnijplnoaaaDoor
