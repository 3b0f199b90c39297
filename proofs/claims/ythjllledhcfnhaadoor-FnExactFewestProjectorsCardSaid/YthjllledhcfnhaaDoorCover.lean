/- Coverage: plain law. Conditions: those of each lemma. -/
import Derived.Test.YthjllledhcfnhaaDoorFewImpl
namespace Go.Proofs.YthjllledhcfnhaaDoor
open Go.RowKit Go.Lib Go.Ks
theorem srch_ok {n : Nat} {L : List Nat → Bool} (hfull : ∀ ch, Rise n ch → ch.length = n → L ch = true) : ∀ (B : Nat) (ch c : List Nat), Rise n ch → srch n L B ch = some c → Rise n c ∧ L c = true
  | 0, ch, c, _, h => by cases h
  | B + 1, ch, c, hr, h => by
    rcases bcase (L ch) with q | q
    · cases hn : nextL n ch with
      | some c2 =>
        rw [srch_next q hn] at h
        exact srch_ok hfull B c2 c (next_rise hr hn).1 h
      | none =>
        rw [srch_more q hn] at h
        refine srch_ok hfull B _ c (rise_range ?_) h
        rcases Nat.lt_or_ge ch.length n with g | g
        · omega
        · have := hfull ch hr (Nat.le_antisymm hr.1 g)
          rw [q] at this
          cases this
    · rw [srch_hit q] at h
      cases h
      exact ⟨hr, q⟩
section
variable {n : Nat} {l : Nat → ProjectorD} {st : Int}
theorem drk_hit (n : Nat) (l : Nat → ProjectorD) (st : Int) : ∀ k, ((drkN n l st k : Nat) : Int) + hitTo n l st 1 k = (k : Int)
  | 0 => rfl
  | k + 1 => by
    have ih := drk_hit n l st k
    have hc := (cnt_bd l (spX st k) (spY st k) n).1
    by_cases z : cntTo l (spX st k) (spY st k) n = 0
    · rw [drkN_yes z, hit_no (by omega)]; omega
    · rw [drkN_no z, hit_yes (by omega)]; omega
theorem hit_two (n : Nat) (l : Nat → ProjectorD) (st : Int) : ∀ k, hitTo n l st 2 k ≤ hitTo n l st 1 k
  | 0 => Int.le_refl _
  | k + 1 => by
    have ih := hit_two n l st k
    unfold hitTo
    split <;> split <;> omega
theorem share_two (h : 0 < st) : shareV n l st 2 ≤ shareV n l st 1 := by
  have hp := nSp_pos h
  have := hit_two n l st (nSp st)
  exact Int.ediv_le_ediv (by omega) (by omega)
theorem share_full (h : 0 < st) : shareV n l st 1 = 1000 ↔ drkN n l st (nSp st) = 0 := by
  have hp := nSp_pos h
  have hd := drk_hit n l st (nSp st)
  have hb := hit_bd n l st 1 (nSp st)
  unfold shareV
  constructor
  · intro e
    have := Int.mul_ediv_self_le (x := 1000 * hitTo n l st 1 (nSp st)) (k := (nSp st : Int)) (by omega)
    rw [e] at this
    omega
  · intro e
    rw [show hitTo n l st 1 (nSp st) = (nSp st : Int) by omega]
    exact Int.mul_ediv_cancel _ (by omega)
theorem litTo_cnt {ch : List Nat} {x y : Int} : ∀ m, litTo l ch x y m = true → 0 < cntTo (fun j => l (ch.getD j 0)) x y m
  | 0, h => by cases h
  | m + 1, h => by
    have hb := (cnt_bd (fun j => l (ch.getD j 0)) x y m).1
    by_cases q : 0 < rawP (l (ch.getD m 0)) x y
    · rw [cnt_yes (l := fun j => l (ch.getD j 0)) q]; omega
    · rw [cnt_no (l := fun j => l (ch.getD j 0)) q]
      refine litTo_cnt m ?_
      have : (litTo l ch x y m || decide (0 < rawP (l (ch.getD m 0)) x y)) = true := h
      rw [decide_eq_false q, Bool.or_false] at this
      exact this
theorem litAll_at {ch : List Nat} {x y : Nat → Int} : ∀ k, litAll l ch x y k = true → ∀ j, j < k → litTo l ch (x j) (y j) ch.length = true
  | 0, _, j, h => absurd h (by omega)
  | k + 1, h, j, hj => by
    have h2 : (litAll l ch x y k && litTo l ch (x k) (y k) ch.length) = true := h
    rw [Bool.and_eq_true] at h2
    by_cases e : j = k
    · rw [e]; exact h2.2
    · exact litAll_at k h2.1 j (by omega)
theorem cnt_of {k : Nat} {x y : Int} (hk : 0 < rawP (l k) x y) : ∀ n, k < n → 0 < cntTo l x y n
  | 0, h => absurd h (by omega)
  | n + 1, h => by
    have hb := (cnt_bd l x y n).1
    by_cases q : 0 < rawP (l n) x y
    · rw [cnt_yes q]; omega
    · rw [cnt_no q]
      refine cnt_of hk n ?_
      rcases Nat.lt_or_ge k n with g | g
      · exact g
      · rw [show k = n by omega] at hk
        exact absurd hk q
theorem ned_has : ∀ k i, i < k → 0 < cntTo l (spX st i) (spY st i) n → ∃ j, j < nedN n l st k ∧ nedI n l st k j = i
  | 0, i, h, _ => absurd h (by omega)
  | k + 1, i, h, hc => by
    by_cases e : i = k
    · subst e
      exact ⟨nedN n l st i, by rw [nedN_yes hc]; omega, nedI_new hc⟩
    · obtain ⟨j, hj, hi⟩ := ned_has k i (by omega) hc
      refine ⟨j, ?_, by rw [nedI_old hj, hi]⟩
      have : nedN n l st k ≤ nedN n l st (k + 1) := by rw [nedN]; omega
      omega
theorem few_dark {ch : List Nat} (hr : Rise n ch) (hL : fewL n l st ch = true) : ∀ k, k ≤ nSp st → drkN ch.length (fun j => l (ch.getD j 0)) st k = drkN n l st k
  | 0, _ => rfl
  | k + 1, hk => by
    have ih := few_dark hr hL k (by omega)
    have b1 := (cnt_bd l (spX st k) (spY st k) n).1
    have b2 := (cnt_bd (fun j => l (ch.getD j 0)) (spX st k) (spY st k) ch.length).1
    by_cases z : cntTo l (spX st k) (spY st k) n = 0
    · have z2 : cntTo (fun j => l (ch.getD j 0)) (spX st k) (spY st k) ch.length = 0 := by
        rcases Int.lt_or_le 0 (cntTo (fun j => l (ch.getD j 0)) (spX st k) (spY st k) ch.length) with g | g
        · obtain ⟨q, hq, hp⟩ := cnt_some _ g
          have := cnt_of (l := l) hp n (hr.2.1 q hq)
          omega
        · omega
      rw [drkN_yes z, drkN_yes z2, ih]
    · obtain ⟨j, hj, hi⟩ := ned_has (n := n) (l := l) (st := st) (nSp st) k (by omega) (by omega)
      have h := litAll_at _ hL j hj
      unfold nedX nedY at h
      rw [hi] at h
      have g := litTo_cnt _ h
      have z2 : ¬ cntTo (fun j => l (ch.getD j 0)) (spX st k) (spY st k) ch.length = 0 := by omega
      rw [drkN_no z, drkN_no z2, ih]
theorem less_trans : ∀ (a b c : List UInt8), Go.Op.bytesLess a b = true → Go.Op.bytesLess b c = true → Go.Op.bytesLess a c = true
  | _, _, [], _, h => by cases ‹List UInt8› <;> simp [Go.Op.bytesLess] at h
  | [], [], _ :: _, h, _ => by simp [Go.Op.bytesLess] at h
  | [], _ :: _, _ :: _, _, _ => rfl
  | _ :: _, [], _ :: _, h, _ => by simp [Go.Op.bytesLess] at h
  | a :: x, b :: y, c :: z, h, h2 => by
    simp only [Go.Op.bytesLess, Bool.or_eq_true, Bool.and_eq_true, decide_eq_true_eq, beq_iff_eq] at h h2 ⊢
    rcases h with h | ⟨rfl, h⟩
    · rcases h2 with h2 | ⟨rfl, h2⟩
      · exact .inl (UInt8.lt_trans h h2)
      · exact .inl h
    · rcases h2 with h2 | ⟨rfl, h2⟩
      · exact .inl h2
      · exact .inr ⟨rfl, less_trans x y z h h2⟩
theorem name_far (h : ProjsOk n l) (i : Nat) : ∀ d, i + d + 1 < n → strLt (l i).f0 (l (i + d + 1)).f0
  | 0, hd => by
    have := (h.2 (i + 1) hd).2 (by omega)
    rwa [show i + 1 - 1 = i by omega] at this
  | d + 1, hd => by
    have a := name_far h i d (by omega)
    have b := (h.2 (i + (d + 1) + 1) hd).2 (by omega)
    rw [show i + (d + 1) + 1 - 1 = i + d + 1 by omega] at b
    exact less_trans _ _ _ a b
theorem few_ok {ch : List Nat} (hp : projsB n l = true) (hr : Rise n ch) : projsB ch.length (fun j => l (ch.getD j 0)) = true := by
  have h := projsB_of hp
  refine projsB_yes ⟨Nat.le_trans hr.1 h.1, fun k hk => ⟨(h.2 _ (hr.2.1 k hk)).1, fun k0 => ?_⟩⟩
  have h3 := hr.2.2 (k - 1) (by omega)
  rw [show k - 1 + 1 = k by omega] at h3
  have h4 := name_far h (ch.getD (k - 1) 0) (ch.getD k 0 - ch.getD (k - 1) 0 - 1) (by have := hr.2.1 k hk; omega)
  rwa [show ch.getD (k - 1) 0 + (ch.getD k 0 - ch.getD (k - 1) 0 - 1) + 1 = ch.getD k 0 by omega] at h4
theorem dark_few {ch : List Nat} (hp : projsB n l = true) (hst : inB st 10000 90000 = true) (hr : Rise n ch) (hL : fewL n l st ch = true) : mDarkSpotsN ch.length (fun j => l (ch.getD j 0)) st = mDarkSpotsN n l st ∧ mAsk ch.length (fun j => l (ch.getD j 0)) st = 0 := by
  have e := few_ok hp hr
  rw [mDk_in hp hst, mDk_in e hst, mAsk_in e hst]
  exact ⟨few_dark hr hL _ (Nat.le_refl _), rfl⟩
/-- what a found choice keeps -/
theorem few_found {bud : Int} {ch : List Nat} (h : mFewO n l st bud = some ch) : projsB n l = true ∧ inB st 10000 90000 = true ∧ Rise n ch ∧ mDarkSpotsN ch.length (fun j => l (ch.getD j 0)) st = mDarkSpotsN n l st ∧ mAsk ch.length (fun j => l (ch.getD j 0)) st = 0 := by
  unfold mFewO at h
  split at h
  · rename_i q
    obtain ⟨q1, q2, q3⟩ := q
    obtain ⟨hr, hL⟩ := srch_ok (n := n) (L := fewL n l st) (fun ch h hl => full_lit h hl (fun j hj => ned_lit _ j hj)) _ _ _ (rise_range (m := 0) (Nat.zero_le _)) h
    exact ⟨q1, q2, hr, dark_few q1 q2 hr hL⟩
  · cases h
theorem share_law (q : projsB n l = true) (q' : inB st 10000 90000 = true) : mShareV n l st 2 ≤ mShareV n l st 1 ∧ 0 ≤ mShareV n l st 1 ∧ mShareV n l st 1 ≤ 1000 ∧ 0 ≤ mShareV n l st 2 ∧ (mShareV n l st 1 = 1000 ↔ mDarkSpotsN n l st = 0) := by
  have h := (inB_iff.1 q').1
  rw [mShare_in q q', mShare_in q q', mDk_in q q']
  exact ⟨share_two (by omega), (shareV_bd (by omega)).1, (shareV_bd (by omega)).2, (shareV_bd (by omega)).1, share_full (by omega)⟩
end
end Go.Proofs.YthjllledhcfnhaaDoor
