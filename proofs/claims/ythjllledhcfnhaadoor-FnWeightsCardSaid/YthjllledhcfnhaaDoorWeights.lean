/- WeightsAt. Conditions: the slice reads as projectors; the variable sines holds its table. -/
import Derived.Test.YthjllledhcfnhaaDoorBrightAt
namespace Go.Proofs.YthjllledhcfnhaaDoor
open Go.RowKit Go.Lib Go.Ks
noncomputable def mWeightsAtN (n : Nat) (l : Nat → ProjectorD) (az alt : Int) : Nat := if projsB n l = true ∧ upB az alt = true then sharesN l az alt n else 0
noncomputable def mWeightsAtL (n : Nat) (l : Nat → ProjectorD) (az alt : Int) : Nat → Int := sharesL l az alt n
section
variable {n : Nat} {l : Nat → ProjectorD} {az alt : Int}
theorem mWe_no (q : projsB n l = false) : mWeightsAtN n l az alt = 0 ∧ mBrC n l az alt = 1 := by simp [mWeightsAtN, mBrC, q]
theorem mWe_out (q : projsB n l = true) (q' : upB az alt = false) : mWeightsAtN n l az alt = 0 ∧ mBrC n l az alt = 2 := by simp [mWeightsAtN, mBrC, q, q']
theorem mWe_in (q : projsB n l = true) (q' : upB az alt = true) : mWeightsAtN n l az alt = sharesN l az alt n ∧ mBrC n l az alt = brightC n l az alt := by simp [mWeightsAtN, mBrC, q, q']
end
theorem mWeightsAt_len (n : Nat) (l : Nat → ProjectorD) (az alt : Int) : mWeightsAtN n l az alt ≤ 1048576 := by
  unfold mWeightsAtN
  split
  · rename_i h
    have := (projs_all h.1).1
    unfold sharesN
    split <;> omega
  · omega
theorem rets_none {w w' : World} {e : TypeId} {size : Nat} {f : Nat → Value} {n : Nat} {code code' : Int} (hn : n = 0) (hc : code = code') : RetS w w' e size n f code (.returned (.tuple #[.slice none 0 0, .int .i64 code'])) := by
  subst hn hc
  exact ⟨none, 0, rfl, Own.nil _ _ _ _ _, fun _ => rfl⟩
set_option maxHeartbeats 1000000 in
theorem implWeightsAt_any (A : Option Addr) (n c : Nat) (l : Nat → ProjectorD) (az alt : Int) (w : World) (hn : n ≤ 1048576) (hs : Sl w A (n * 5) (ProjectorC l)) (hg : ∀ k, k < n → ProjectorOk (l k)) (ha : -9223372036854775808 ≤ az ∧ az ≤ 9223372036854775807) (hl : -9223372036854775808 ≤ alt ∧ alt ≤ 9223372036854775807) (hT : Tab w) :
    Calls Tryd.prog 19 #[.slice A n c, .int .i64 az, .int .i64 alt] w fun e w' => RetS w w' 2 1 (mWeightsAtN n l az alt) (IntC (mWeightsAtL n l az alt)) (mBrC n l az alt) e ∧ Below w.heap.size w w' := by
  have HT := Lib.hid hT
  clear hT
  rcases bool_cases (projsB n l) with q | q
  · have E := Lib.hid (mWe_no (az := az) (alt := alt) q)
    go_enter Tryd.func19, Tryd.ntmps19
    go_wp2_with fail
    refine (validProjectors_any _ _ _ l _ hn hs hg).mono ?_
    rintro e w1 ⟨rfl, hb1⟩
    go_wp2_with fail
    go_ret2
    exact ⟨rets_none E.out.1 E.out.2, hb1⟩
  rcases bool_cases (upB az alt) with q' | q'
  · have E := Lib.hid (mWe_out q q')
    go_enter Tryd.func19, Tryd.ntmps19
    go_wp2_with fail
    refine (validProjectors_any _ _ _ l _ hn hs hg).mono ?_
    rintro e w1 ⟨rfl, hb1⟩
    go_wp2_with fail
    refine (isDomeUp_eq _ _ _).mono ?_
    rintro e w1 ⟨rfl, rfl⟩
    go_wp2_with fail
    go_ret2
    exact ⟨rets_none E.out.1 E.out.2, hb1⟩
  have E := Lib.hid (mWe_in q q')
  have OK := Lib.hid (projs_all q)
  go_enter Tryd.func19, Tryd.ntmps19
  go_wp2_with fail
  refine (validProjectors_any _ _ _ l _ hn hs hg).mono ?_
  rintro e w1 ⟨rfl, hb1⟩
  go_wp2_with fail
  refine (isDomeUp_eq _ _ _).mono ?_
  rintro e w1 ⟨rfl, rfl⟩
  go_wp2_with fail
  clear q q'
  refine (sharesAt_any _ n _ l az alt _ OK.out.1 (hs.below hb1) OK.out.2 ha hl (HT.out.below hb1)).mono ?_
  rintro e w2 ⟨⟨A2, c2, rfl, ho, hz⟩, hb2⟩
  have HB2 := hb1.trans (hb2.mono hb1.size)
  have ho2 := ho.mono (show w.heap.size ≤ w1.heap.size from hb1.size)
  obtain ⟨C, hC⟩ : ∃ C, (if rawS l az alt n = 0 then (3 : Int) else 0) = C := ⟨_, rfl⟩
  have HC := Lib.hid (show brightC n l az alt = C from hC)
  rw [hC]
  clear hC
  go_wp2_with fail
  go_ret2
  rw [E.out.1, E.out.2, HC.out]
  exact ⟨⟨A2, c2, rfl, ho2, hz⟩, HB2⟩
end Go.Proofs.YthjllledhcfnhaaDoor
