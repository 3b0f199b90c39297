/- MaskAt of the reference and of the program. Conditions: the slice reads as n masks, n up to 2^20. -/
import Derived.Test.YtjomlcjchndkeaaMaskAt
import Derived.Test.YtjomlcjchndkeaaOwn
namespace Go.Proofs.Ytjomlcjchndkeaa
open Go.RowKit Go.Lib Go.Ks

noncomputable def mAt0 (n : Nat) (l : Nat → MaskD) (a h : Int) : Int := if masksOk n l = true ∧ upB a h = true then maskTo l a h n else 0
noncomputable def mAt1 (n : Nat) (l : Nat → MaskD) (a h : Int) : Int := if masksOk n l = true then (if upB a h = true then 0 else 2) else 1
theorem mAt_bad {n : Nat} {l : Nat → MaskD} {a h : Int} (q : masksOk n l = false) : mAt0 n l a h = 0 ∧ mAt1 n l a h = 1 := by simp [mAt0, mAt1, q]
theorem mAt_out {n : Nat} {l : Nat → MaskD} {a h : Int} (q : masksOk n l = true) (q' : upB a h = false) : mAt0 n l a h = 0 ∧ mAt1 n l a h = 2 := by simp [mAt0, mAt1, q, q']
theorem mAt_in {n : Nat} {l : Nat → MaskD} {a h : Int} (q : masksOk n l = true) (q' : upB a h = true) : mAt0 n l a h = maskTo l a h n ∧ mAt1 n l a h = 0 := by simp [mAt0, mAt1, q, q']

set_option maxHeartbeats 800000 in
theorem specMaskAt_any (A : Option Addr) (n c : Nat) (l : Nat → MaskD) (a h : Int) (w : World) (hn : n ≤ 1048576) (hs : Sl w A (n * 5) (MaskC l)) (hg : ∀ k, k < n → MaskOk (l k)) (_ha : -9223372036854775808 ≤ a ∧ a ≤ 9223372036854775807) (_hh : -9223372036854775808 ≤ h ∧ h ≤ 9223372036854775807) :
    Calls Try.prog 39 #[.slice A n c, .int .i64 a, .int .i64 h] w fun e w' => e = .returned (.tuple #[.int .i64 (mAt0 n l a h), .int .i64 (mAt1 n l a h)]) ∧ Below w.heap.size w w' := by
  cases ok : masksOk n l
  · have E := Lib.hid (mAt_bad (a := a) (h := h) ok)
    go_enter Try.func39, Try.ntmps39
    go_wp2_with fail
    refine (l12Masks_any _ _ _ l _ hn hs hg).mono ?_
    rintro e w1 ⟨rfl, hb⟩
    go_wp2_with fail
    go_ret2
    exact ⟨ret_tup E.out.1.symm E.out.2.symm, hb⟩
  cases lv : upB a h
  · have E := Lib.hid (mAt_out ok lv)
    go_enter Try.func39, Try.ntmps39
    go_wp2_with fail
    refine (l12Masks_any _ _ _ l _ hn hs hg).mono ?_
    rintro e w1 ⟨rfl, hb⟩
    go_wp2_with fail
    refine (l10Spot_eq _ _ _).mono ?_
    rintro e w2 ⟨rfl, rfl⟩
    go_wp2_with fail
    go_ret2
    exact ⟨ret_tup E.out.1.symm E.out.2.symm, hb⟩
  · have E := Lib.hid (mAt_in ok lv)
    have OK := masksOk_of ok
    go_enter Try.func39, Try.ntmps39
    go_wp2_with fail
    refine (l12Masks_any _ _ _ l _ hn hs hg).mono ?_
    rintro e w1 ⟨rfl, hb⟩
    go_wp2_with fail
    refine (l10Spot_eq _ _ _).mono ?_
    rintro e w2 ⟨rfl, rfl⟩
    go_wp2_with fail
    refine (l12Mask_any _ n _ l _ _ _ OK (hs.below hb)).mono ?_
    rintro e w4 ⟨rfl, hb4⟩
    have hb5 := hb.trans (hb4.mono hb.size)
    go_wp2_with fail
    go_ret2
    exact ⟨ret_tup E.out.1.symm E.out.2.symm, hb5⟩

set_option maxHeartbeats 800000 in
theorem implMaskAt_any (A : Option Addr) (n c : Nat) (l : Nat → MaskD) (a h : Int) (w : World) (hn : n ≤ 1048576) (hs : Sl w A (n * 5) (MaskC l)) (hg : ∀ k, k < n → MaskOk (l k)) (_ha : -9223372036854775808 ≤ a ∧ a ≤ 9223372036854775807) (_hh : -9223372036854775808 ≤ h ∧ h ≤ 9223372036854775807) :
    Calls Try.prog 40 #[.slice A n c, .int .i64 a, .int .i64 h] w fun e w' => e = .returned (.tuple #[.int .i64 (mAt0 n l a h), .int .i64 (mAt1 n l a h)]) ∧ Below w.heap.size w w' := by
  cases ok : masksOk n l
  · have E := Lib.hid (mAt_bad (a := a) (h := h) ok)
    go_enter Try.func40, Try.ntmps40
    go_wp2_with fail
    refine (validMasks_any _ _ _ l _ hn hs hg).mono ?_
    rintro e w1 ⟨rfl, hb⟩
    go_wp2_with fail
    go_ret2
    exact ⟨ret_tup E.out.1.symm E.out.2.symm, hb⟩
  cases lv : upB a h
  · have E := Lib.hid (mAt_out ok lv)
    go_enter Try.func40, Try.ntmps40
    go_wp2_with fail
    refine (validMasks_any _ _ _ l _ hn hs hg).mono ?_
    rintro e w1 ⟨rfl, hb⟩
    go_wp2_with fail
    refine (isDomeUp_eq _ _ _).mono ?_
    rintro e w2 ⟨rfl, rfl⟩
    go_wp2_with fail
    go_ret2
    exact ⟨ret_tup E.out.1.symm E.out.2.symm, hb⟩
  · have E := Lib.hid (mAt_in ok lv)
    have OK := masksOk_of ok
    go_enter Try.func40, Try.ntmps40
    go_wp2_with fail
    refine (validMasks_any _ _ _ l _ hn hs hg).mono ?_
    rintro e w1 ⟨rfl, hb⟩
    go_wp2_with fail
    refine (isDomeUp_eq _ _ _).mono ?_
    rintro e w2 ⟨rfl, rfl⟩
    go_wp2_with fail
    refine (maskAt_any _ n _ l _ _ _ OK (hs.below hb)).mono ?_
    rintro e w4 ⟨rfl, hb4⟩
    have hb5 := hb.trans (hb4.mono hb.size)
    go_wp2_with fail
    go_ret2
    exact ⟨ret_tup E.out.1.symm E.out.2.symm, hb5⟩
end Go.Proofs.Ytjomlcjchndkeaa
