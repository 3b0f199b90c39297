/- BrightnessAt. Conditions: the slice reads as projectors; the variable sines holds its table. -/
import Derived.Test.YthjllledhcfnhaaDoorBright
import Derived.Test.YthjllledhcfnhaaDoorShare
namespace Go.Proofs.YthjllledhcfnhaaDoor
open Go.RowKit Go.Lib Go.Ks
noncomputable def mBrV (n : Nat) (l : Nat → ProjectorD) (az alt : Int) : Int := if projsB n l = true ∧ upB az alt = true then brightX n l az alt else 0
noncomputable def mBrC (n : Nat) (l : Nat → ProjectorD) (az alt : Int) : Int := if projsB n l = true then (if upB az alt = true then brightC n l az alt else 2) else 1
section
variable {n : Nat} {l : Nat → ProjectorD} {az alt : Int}
theorem mBr_no (q : projsB n l = false) : mBrV n l az alt = 0 ∧ mBrC n l az alt = 1 := by simp [mBrV, mBrC, q]
theorem mBr_out (q : projsB n l = true) (q' : upB az alt = false) : mBrV n l az alt = 0 ∧ mBrC n l az alt = 2 := by simp [mBrV, mBrC, q, q']
theorem mBr_in (q : projsB n l = true) (q' : upB az alt = true) : mBrV n l az alt = brightX n l az alt ∧ mBrC n l az alt = brightC n l az alt := by simp [mBrV, mBrC, q, q']
end
theorem bool_cases (b : Bool) : b = false ∨ b = true := by cases b <;> simp
set_option maxHeartbeats 1000000 in
theorem implBrightnessAt_any (A : Option Addr) (n c : Nat) (l : Nat → ProjectorD) (az alt : Int) (w : World) (hn : n ≤ 1048576) (hs : Sl w A (n * 5) (ProjectorC l)) (hg : ∀ k, k < n → ProjectorOk (l k)) (ha : -9223372036854775808 ≤ az ∧ az ≤ 9223372036854775807) (hl : -9223372036854775808 ≤ alt ∧ alt ≤ 9223372036854775807) (hT : Tab w) :
    Calls Tryd.prog 20 #[.slice A n c, .int .i64 az, .int .i64 alt] w fun e w' => e = .returned (.tuple #[.int .i64 (mBrV n l az alt), .int .i64 (mBrC n l az alt)]) ∧ Below w.heap.size w w' := by
  have HT := Lib.hid hT
  clear hT
  rcases bool_cases (projsB n l) with q | q
  · have E := Lib.hid (mBr_no (az := az) (alt := alt) q)
    go_enter Tryd.func20, Tryd.ntmps20
    go_wp2_with fail
    refine (validProjectors_any _ _ _ l _ hn hs hg).mono ?_
    rintro e w1 ⟨rfl, hb1⟩
    go_wp2_with fail
    go_ret2
    exact ⟨ret_tup E.out.1.symm E.out.2.symm, hb1⟩
  rcases bool_cases (upB az alt) with q' | q'
  · have E := Lib.hid (mBr_out q q')
    go_enter Tryd.func20, Tryd.ntmps20
    go_wp2_with fail
    refine (validProjectors_any _ _ _ l _ hn hs hg).mono ?_
    rintro e w1 ⟨rfl, hb1⟩
    go_wp2_with fail
    refine (isDomeUp_eq _ _ _).mono ?_
    rintro e w1 ⟨rfl, rfl⟩
    go_wp2_with fail
    go_ret2
    exact ⟨ret_tup E.out.1.symm E.out.2.symm, hb1⟩
  have E := Lib.hid (mBr_in q q')
  have OK := Lib.hid (projs_all q)
  go_enter Tryd.func20, Tryd.ntmps20
  go_wp2_with fail
  refine (validProjectors_any _ _ _ l _ hn hs hg).mono ?_
  rintro e w1 ⟨rfl, hb1⟩
  go_wp2_with fail
  refine (isDomeUp_eq _ _ _).mono ?_
  rintro e w1 ⟨rfl, rfl⟩
  go_wp2_with fail
  refine (brightnessAt_any _ _ _ l az alt _ OK.out.1 (hs.below hb1) OK.out.2 ha hl (HT.out.below hb1)).mono ?_
  rintro e w2 ⟨rfl, hb2⟩
  go_wp2_with fail
  go_ret2
  exact ⟨ret_tup E.out.1.symm E.out.2.symm, hb1.trans (hb2.mono hb1.size)⟩
end Go.Proofs.YthjllledhcfnhaaDoor
