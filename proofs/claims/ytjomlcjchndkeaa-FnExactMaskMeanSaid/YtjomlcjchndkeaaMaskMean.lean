/- MaskMean of the reference and of the program. Conditions: the slice reads as n masks, n up to 2^20. -/
import Derived.Test.YtjomlcjchndkeaaMaskAt
import Derived.Test.YtjomlcjchndkeaaSpots
namespace Go.Proofs.Ytjomlcjchndkeaa
open Go.RowKit Go.Lib Go.Ks

noncomputable def mSum (n : Nat) (l : Nat → MaskD) (st : Int) : Nat → Int
  | 0 => 0
  | k + 1 => mSum n l st k + maskTo l (spX st k) (spY st k) n
theorem mSum_succ (n : Nat) (l : Nat → MaskD) (st : Int) (k : Nat) : mSum n l st (k + 1) = mSum n l st k + maskTo l (spX st k) (spY st k) n := rfl
theorem mSum_bd {n : Nat} {l : Nat → MaskD} (ok : MasksOk n l) (st : Int) : ∀ k, 0 ≤ mSum n l st k ∧ mSum n l st k ≤ 1000 * (k : Int)
  | 0 => ⟨(by unfold mSum; omega), (by unfold mSum; omega)⟩
  | k + 1 => by
    have ih := mSum_bd ok st k
    have h := maskTo_bd ok (spX st k) (spY st k) n (Nat.le_refl _)
    unfold mSum
    omega
noncomputable def mMean0 (n : Nat) (l : Nat → MaskD) (st : Int) : Int := if masksOk n l = true ∧ inB st 10000 90000 = true then mSum n l st (nSp st) / (nSp st : Int) else 0
noncomputable def mMean1 (n : Nat) (l : Nat → MaskD) (st : Int) : Int := if masksOk n l = true then (if inB st 10000 90000 = true then 0 else 2) else 1
theorem mMean_bad {n : Nat} {l : Nat → MaskD} {st : Int} (q : masksOk n l = false) : mMean0 n l st = 0 ∧ mMean1 n l st = 1 := by simp [mMean0, mMean1, q]
theorem mMean_out {n : Nat} {l : Nat → MaskD} {st : Int} (q : masksOk n l = true) (q' : inB st 10000 90000 = false) : mMean0 n l st = 0 ∧ mMean1 n l st = 2 := by simp [mMean0, mMean1, q, q']
theorem mMean_in {n : Nat} {l : Nat → MaskD} {st : Int} (q : masksOk n l = true) (q' : inB st 10000 90000 = true) : mMean0 n l st = mSum n l st (nSp st) / (nSp st : Int) ∧ mMean1 n l st = 0 := by simp [mMean0, mMean1, q, q']

set_option maxHeartbeats 2000000 in
theorem specMaskMean_any (A : Option Addr) (n c : Nat) (l : Nat → MaskD) (st : Int) (w : World) (hn : n ≤ 1048576) (hs : Sl w A (n * 5) (MaskC l)) (hg : ∀ k, k < n → MaskOk (l k)) (_ha : -9223372036854775808 ≤ st ∧ st ≤ 9223372036854775807) :
    Calls Try.prog 41 #[.slice A n c, .int .i64 st] w fun e w' => e = .returned (.tuple #[.int .i64 (mMean0 n l st), .int .i64 (mMean1 n l st)]) ∧ Below w.heap.size w w' := by
  cases ok : masksOk n l
  · have E := Lib.hid (mMean_bad (st := st) ok)
    go_enter Try.func41, Try.ntmps41
    go_wp2_with fail
    refine (l12Masks_any _ _ _ l _ hn hs hg).mono ?_
    rintro e w1 ⟨rfl, hb⟩
    go_wp2_with fail
    go_ret2
    exact ⟨ret_tup E.out.1.symm E.out.2.symm, hb⟩
  cases lv : inB st 10000 90000
  · have E := Lib.hid (mMean_out ok lv)
    go_enter Try.func41, Try.ntmps41
    go_wp2_with fail
    refine (l12Masks_any _ _ _ l _ hn hs hg).mono ?_
    rintro e w1 ⟨rfl, hb⟩
    go_wp2_with fail
    refine (l10Step_eq _ _).mono ?_
    rintro e w2 ⟨rfl, rfl⟩
    go_wp2_with fail
    go_ret2
    exact ⟨ret_tup E.out.1.symm E.out.2.symm, hb⟩
  · have E := Lib.hid (mMean_in ok lv)
    have OK := Lib.hid (masksOk_of ok)
    obtain ⟨st1, st2⟩ := inB_iff.1 lv
    have np := nSp_pos (st := st) (by omega)
    have nl := nSp_le st1
    go_enter Try.func41, Try.ntmps41
    go_wp2_with fail
    refine (l12Masks_any _ _ _ l _ hn hs hg).mono ?_
    rintro e w1 ⟨rfl, hb⟩
    go_wp2_with fail
    refine (l10Step_eq _ _).mono ?_
    rintro e w2 ⟨rfl, rfl⟩
    go_wp2_with fail
    refine (l10Spots_any _ _ st1 st2).mono ?_
    rintro e w3 ⟨⟨v, rfl, hp⟩, hb3⟩
    obtain ⟨A2, c2, g, rfl, hnc, hpr⟩ := hp.read
    clear hp
    have hb4 := hb.trans (hb3.mono hb.size)
    clear hb3
    go_wp2_with fail
    obtain ⟨wo, rfl⟩ : ∃ wo : World, wo = w3 := ⟨_, rfl⟩
    go_loopw [7, 8] (fun s i wr => ∃ k : Nat, k ≤ nSp st ∧ s = .int .i64 (mSum n l st k) ∧ i = .int .i64 (k : Int) ∧ Below wo.heap.size wo wr) (fun s i _ => nSp st - (intOf i).toNat)
    case atStart => exact ⟨0, Nat.zero_le _, rfl, rfl, Below.refl _ _⟩
    case round =>
      obtain ⟨k, hk, rfl, rfl, hbi⟩ := hrel
      have sb := mSum_bd OK.out st k
      obtain ⟨sb1, sb2⟩ := sb
      have hpr2 := hpr.below hbi
      by_cases hlt : k < nSp st
      · obtain ⟨bb, off, rfl, hbb, hcc⟩ := hpr2.1 (by omega)
        obtain ⟨gk, gx, gy⟩ := hpr2.2 k hlt
        have c0 := hcc k hlt
        have mb := maskTo_bd OK.out (spX st k) (spY st k) n (Nat.le_refl _)
        obtain ⟨mb1, mb2⟩ := mb
        have hs2 := (hs.below hb4).below hbi
        clear hcc
        go_wp2_with fail
        refine wp_region_ext (by kernel_rfl) (by kernel_rfl) ?_
        repeat (go_big_quiet_step ((go_at_call 62; exact quiet_ext (l12Mask_any _ n _ l _ _ _ OK.out (hs2.below (ExtW.below _))))))
        refine wpQuiet_nil ?_
        intro e1
        have hb5 := hbi.trans (e1.below.mono hbi.size)
        go_wp2_with fail
        go_roundw
        case rel => exact ⟨k + 1, by omega, ret_num (mSum_succ n l st k).symm, by go_num, hb5⟩
        case measure => simp [intOf]; omega
      · obtain rfl : k = nSp st := by omega
        have hbl := hb4.trans (hbi.mono hb4.size)
        go_wp2_with fail
        go_ret2
        exact ⟨ret_tup (by rw [E.out.1]) E.out.2.symm, hbl⟩

set_option maxHeartbeats 2000000 in
theorem implMaskMean_any (A : Option Addr) (n c : Nat) (l : Nat → MaskD) (st : Int) (w : World) (hn : n ≤ 1048576) (hs : Sl w A (n * 5) (MaskC l)) (hg : ∀ k, k < n → MaskOk (l k)) (_ha : -9223372036854775808 ≤ st ∧ st ≤ 9223372036854775807) :
    Calls Try.prog 42 #[.slice A n c, .int .i64 st] w fun e w' => e = .returned (.tuple #[.int .i64 (mMean0 n l st), .int .i64 (mMean1 n l st)]) ∧ Below w.heap.size w w' := by
  cases ok : masksOk n l
  · have E := Lib.hid (mMean_bad (st := st) ok)
    go_enter Try.func42, Try.ntmps42
    go_wp2_with fail
    refine (validMasks_any _ _ _ l _ hn hs hg).mono ?_
    rintro e w1 ⟨rfl, hb⟩
    go_wp2_with fail
    go_ret2
    exact ⟨ret_tup E.out.1.symm E.out.2.symm, hb⟩
  cases lv : inB st 10000 90000
  · have E := Lib.hid (mMean_out ok lv)
    go_enter Try.func42, Try.ntmps42
    go_wp2_with fail
    refine (validMasks_any _ _ _ l _ hn hs hg).mono ?_
    rintro e w1 ⟨rfl, hb⟩
    go_wp2_with fail
    refine (spotsOf_bad _ _ lv).mono ?_
    rintro e w2 ⟨rfl, rfl⟩
    go_wp2_with fail
    go_ret2
    exact ⟨ret_tup E.out.1.symm E.out.2.symm, hb⟩
  · have E := Lib.hid (mMean_in ok lv)
    have OK := Lib.hid (masksOk_of ok)
    obtain ⟨st1, st2⟩ := inB_iff.1 lv
    have np := nSp_pos (st := st) (by omega)
    have nl := nSp_le st1
    go_enter Try.func42, Try.ntmps42
    go_wp2_with fail
    refine (validMasks_any _ _ _ l _ hn hs hg).mono ?_
    rintro e w1 ⟨rfl, hb⟩
    go_wp2_with fail
    refine (spotsOf_any _ _ st1 st2).mono ?_
    rintro e w3 ⟨⟨v, rfl, hp⟩, hb3⟩
    obtain ⟨A2, c2, g, rfl, hnc, hpr⟩ := hp.read
    clear hp
    have hb4 := hb.trans (hb3.mono hb.size)
    clear hb3
    go_wp2_with fail
    obtain ⟨wo, rfl⟩ : ∃ wo : World, wo = w3 := ⟨_, rfl⟩
    go_loopw [8, 24, 10] (fun s i sp wr => ∃ k : Nat, k ≤ nSp st ∧ s = .int .i64 (mSum n l st k) ∧ i = .int .i64 (k : Int) ∧ Below wo.heap.size wo wr) (fun _ i _ _ => nSp st - (intOf i).toNat)
    case atStart => exact ⟨0, Nat.zero_le _, rfl, rfl, Below.refl _ _⟩
    case round =>
      obtain ⟨k, hk, rfl, rfl, hbi⟩ := hrel
      have sb := mSum_bd OK.out st k
      obtain ⟨sb1, sb2⟩ := sb
      have hpr2 := hpr.below hbi
      by_cases hlt : k < nSp st
      · obtain ⟨bb, off, rfl, hbb, hcc⟩ := hpr2.1 (by omega)
        obtain ⟨gk, gx, gy⟩ := hpr2.2 k hlt
        have c0 := hcc k hlt
        have mb := maskTo_bd OK.out (spX st k) (spY st k) n (Nat.le_refl _)
        obtain ⟨mb1, mb2⟩ := mb
        have hs2 := (hs.below hb4).below hbi
        clear hcc
        go_wp2_with fail
        refine wp_region_ext (by kernel_rfl) (by kernel_rfl) ?_
        repeat (go_big_quiet_step ((go_at_call 64; exact quiet_ext (maskAt_any _ n _ l _ _ _ OK.out (hs2.below (ExtW.below _))))))
        refine wpQuiet_nil ?_
        intro e1
        have hb5 := hbi.trans (e1.below.mono hbi.size)
        go_wp2_with fail
        go_roundw
        case rel => exact ⟨k + 1, by omega, ret_num (mSum_succ n l st k).symm, by go_num, hb5⟩
        case measure => simp [intOf]; omega
      · obtain rfl : k = nSp st := by omega
        have hbl := hb4.trans (hbi.mono hb4.size)
        go_wp2_with fail
        go_ret2
        exact ⟨ret_tup (by rw [E.out.1]) E.out.2.symm, hbl⟩
end Go.Proofs.Ytjomlcjchndkeaa
