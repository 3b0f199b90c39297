/- The search for the fewest projectors: plain law of what the program tries. -/
import Derived.Test.YthjllledhcfnhaaDoorFewNext
namespace Go.Ks
/-- rising indices below n -/
def Rise (n : Nat) (ch : List Nat) : Prop := ch.length ≤ n ∧ (∀ q, q < ch.length → ch.getD q 0 < n) ∧ ∀ q, q + 1 < ch.length → ch.getD q 0 < ch.getD (q + 1) 0
theorem piv_some {n m : Nat} {ch : List Nat} {i : Nat} : ∀ k, piv n m ch k = some i → i < k ∧ ((ch.getD i 0 : Nat) : Int) < (n : Int) - (m : Int) + (i : Int)
  | 0, h => by simp [piv] at h
  | k + 1, h => by
    unfold piv at h
    split at h
    · rename_i q
      injection h with h
      subst h
      exact ⟨by omega, q⟩
    · obtain ⟨a, b⟩ := piv_some k h
      exact ⟨by omega, b⟩
theorem next_rise {n : Nat} {ch ch' : List Nat} (h : Rise n ch) (hn : nextL n ch = some ch') : Rise n ch' ∧ ch'.length = ch.length := by
  unfold nextL at hn
  cases hp : piv n ch.length ch ch.length with
  | none => rw [hp] at hn; simp at hn
  | some i =>
    rw [hp] at hn
    simp only [Option.map_some, Option.some.injEq] at hn
    obtain ⟨hi, hlt⟩ := piv_some _ hp
    obtain ⟨h1, h2, h3⟩ := h
    have hl : ch'.length = ch.length := by rw [← hn]; simp
    have g : ∀ q, q < ch.length → ch'.getD q 0 = tl ch i ch.length q := fun q hq => by rw [← hn]; exact map_range_getD _ hq
    refine ⟨⟨by omega, fun q hq => ?_, fun q hq => ?_⟩, hl⟩
    · rw [hl] at hq
      rw [g q hq]
      unfold tl
      split
      · exact h2 q hq
      · omega
    · rw [hl] at hq
      rw [g q (by omega), g (q + 1) hq]
      unfold tl
      by_cases c1 : q + 1 < i
      · rw [if_pos (by omega), if_pos c1]; exact h3 q hq
      · rw [if_neg c1, if_pos hq]
        by_cases c2 : q < i
        · rw [if_pos c2]
          have := h3 q hq
          have e : q + 1 = i := by omega
          rw [e] at this ⊢
          omega
        · rw [if_neg c2, if_pos (by omega)]; omega
theorem rise_far {n : Nat} {ch : List Nat} (h : Rise n ch) (q : Nat) : ∀ d, q + d < ch.length → ch.getD q 0 + d ≤ ch.getD (q + d) 0
  | 0, _ => Nat.le_refl _
  | d + 1, hd => by
    have ih := rise_far h q d (by omega)
    have := h.2.2 (q + d) (by omega)
    rw [show q + (d + 1) = q + d + 1 by omega]
    omega
theorem rise_full {n : Nat} {ch : List Nat} (h : Rise n ch) (hl : ch.length = n) : ∀ q, q < n → ch.getD q 0 = q := fun q hq => by
  have a := rise_far h q (n - 1 - q) (by omega)
  have b := h.2.1 (q + (n - 1 - q)) (by omega)
  have c := rise_far h 0 q (by omega)
  rw [Nat.zero_add] at c
  omega
theorem rise_range {n m : Nat} (h : m ≤ n) : Rise n (List.range m) := by
  have g : ∀ q, q < m → (List.range m).getD q 0 = q := fun q hq => by rw [List.getD_eq_getElem?_getD, List.getElem?_range hq]; rfl
  refine ⟨by simpa using h, fun q hq => ?_, fun q hq => ?_⟩
  · simp only [List.length_range] at hq
    rw [g q hq]; omega
  · simp only [List.length_range] at hq
    rw [g q (by omega), g (q + 1) hq]; omega
theorem litTo_mono {l : Nat → ProjectorD} {ch : List Nat} {x y : Int} {q : Nat} (h : litTo l ch x y q = true) : ∀ d, litTo l ch x y (q + d) = true
  | 0 => h
  | d + 1 => by show (litTo l ch x y (q + d) || _) = true; rw [litTo_mono h d]; rfl
theorem litTo_at {l : Nat → ProjectorD} {ch : List Nat} {x y : Int} {k m : Nat} (hk : k < m) (h : 0 < rawP (l (ch.getD k 0)) x y) : litTo l ch x y m = true := by
  have h1 : litTo l ch x y (k + 1) = true := by show (litTo l ch x y k || decide (0 < rawP (l (ch.getD k 0)) x y)) = true; rw [decide_eq_true h]; simp
  have := litTo_mono h1 (m - (k + 1))
  rwa [show k + 1 + (m - (k + 1)) = m by omega] at this
theorem litAll_of {l : Nat → ProjectorD} {ch : List Nat} {x y : Nat → Int} : ∀ k, (∀ j, j < k → litTo l ch (x j) (y j) ch.length = true) → litAll l ch x y k = true
  | 0, _ => rfl
  | k + 1, h => by show (litAll l ch x y k && _) = true; rw [litAll_of k (fun j hj => h j (by omega)), h k (by omega)]; rfl
/-- the search: B tries are left -/
def srch (n : Nat) (L : List Nat → Bool) : Nat → List Nat → Option (List Nat)
  | 0, _ => none
  | B + 1, ch => if L ch = true then some ch else match nextL n ch with
    | some c' => srch n L B c'
    | none => srch n L B (List.range (ch.length + 1))
theorem srch_hit {n B : Nat} {L : List Nat → Bool} {ch : List Nat} (h : L ch = true) : srch n L (B + 1) ch = some ch := if_pos h
theorem srch_next {n B : Nat} {L : List Nat → Bool} {ch c' : List Nat} (h : L ch = false) (hn : nextL n ch = some c') : srch n L (B + 1) ch = srch n L B c' := by
  show (if L ch = true then some ch else _) = _
  rw [h, if_neg (by decide), hn]
theorem srch_more {n B : Nat} {L : List Nat → Bool} {ch : List Nat} (h : L ch = false) (hn : nextL n ch = none) : srch n L (B + 1) ch = srch n L B (List.range (ch.length + 1)) := by
  show (if L ch = true then some ch else _) = _
  rw [h, if_neg (by decide), hn]
end Go.Ks
namespace Go.Proofs.YthjllledhcfnhaaDoor
open Go.RowKit Go.Lib Go.Ks
theorem cnt_some {l : Nat → ProjectorD} {x y : Int} : ∀ n, 0 < cntTo l x y n → ∃ k, k < n ∧ 0 < rawP (l k) x y
  | 0, h => by simp [cntTo] at h
  | n + 1, h => by
    by_cases q : 0 < rawP (l n) x y
    · exact ⟨n, by omega, q⟩
    · rw [cnt_no q] at h
      obtain ⟨k, hk, hr⟩ := cnt_some n h
      exact ⟨k, by omega, hr⟩
theorem full_lit {n N : Nat} {l : Nat → ProjectorD} {ch : List Nat} {x y : Nat → Int} (h : Rise n ch) (hl : ch.length = n) (hN : ∀ j, j < N → 0 < cntTo l (x j) (y j) n) : litAll l ch x y N = true :=
  litAll_of N (fun j hj => by
    obtain ⟨k, hk, hr⟩ := cnt_some n (hN j hj)
    exact litTo_at (k := k) (by omega) (by rw [rise_full h hl k hk]; exact hr))
/-- how many of the first k spots are lit by some, and which -/
def nedN (n : Nat) (l : Nat → ProjectorD) (st : Int) : Nat → Nat
  | 0 => 0
  | k + 1 => nedN n l st k + if 0 < cntTo l (spX st k) (spY st k) n then 1 else 0
def nedI (n : Nat) (l : Nat → ProjectorD) (st : Int) : Nat → Nat → Nat
  | 0, _ => 0
  | k + 1, j => if 0 < cntTo l (spX st k) (spY st k) n ∧ j = nedN n l st k then k else nedI n l st k j
section
variable {n : Nat} {l : Nat → ProjectorD} {st : Int}
theorem nedN_yes {k : Nat} (h : 0 < cntTo l (spX st k) (spY st k) n) : nedN n l st (k + 1) = nedN n l st k + 1 := by rw [nedN, if_pos h]
theorem nedN_no {k : Nat} (h : ¬ 0 < cntTo l (spX st k) (spY st k) n) : nedN n l st (k + 1) = nedN n l st k := by rw [nedN, if_neg h, Nat.add_zero]
theorem nedI_no {k : Nat} (h : ¬ 0 < cntTo l (spX st k) (spY st k) n) : nedI n l st (k + 1) = nedI n l st k := by funext j; rw [nedI, if_neg (fun h2 => h h2.1)]
theorem nedI_old {k j : Nat} (hj : j < nedN n l st k) : nedI n l st (k + 1) j = nedI n l st k j := by rw [nedI, if_neg (fun h2 => by omega)]
theorem nedI_new {k : Nat} (h : 0 < cntTo l (spX st k) (spY st k) n) : nedI n l st (k + 1) (nedN n l st k) = k := by rw [nedI, if_pos ⟨h, rfl⟩]
theorem nedN_le (n : Nat) (l : Nat → ProjectorD) (st : Int) : ∀ k, nedN n l st k ≤ k
  | 0 => Nat.le_refl _
  | k + 1 => by
    have := nedN_le n l st k
    unfold nedN
    split <;> omega
theorem nedI_lt : ∀ k j, j < nedN n l st k → nedI n l st k j < k
  | 0, j, h => absurd h (by simp [nedN])
  | k + 1, j, h => by
    by_cases z : 0 < cntTo l (spX st k) (spY st k) n
    · rw [nedN_yes z] at h
      by_cases e : j = nedN n l st k
      · rw [e, nedI_new z]; omega
      · rw [nedI_old (by omega)]
        have := nedI_lt k j (by omega)
        omega
    · rw [nedN_no z] at h
      rw [nedI_no z]
      have := nedI_lt k j h
      omega
theorem nedI_mono : ∀ k j, j < nedN n l st k → ∀ i, i < j → nedI n l st k i < nedI n l st k j
  | 0, j, h => absurd h (by simp [nedN])
  | k + 1, j, h => fun i hi => by
    by_cases z : 0 < cntTo l (spX st k) (spY st k) n
    · rw [nedN_yes z] at h
      by_cases e : j = nedN n l st k
      · subst e
        rw [nedI_new z, nedI_old hi]
        exact nedI_lt k i hi
      · rw [nedI_old (by omega), nedI_old (by omega)]
        exact nedI_mono k j (by omega) i hi
    · rw [nedN_no z] at h
      rw [nedI_no z]
      exact nedI_mono k j h i hi
end
theorem ned_lit {n : Nat} {l : Nat → ProjectorD} {st : Int} : ∀ k j, j < nedN n l st k → 0 < cntTo l (spX st (nedI n l st k j)) (spY st (nedI n l st k j)) n
  | 0, j, h => absurd h (by simp [nedN])
  | k + 1, j, h => by
    by_cases z : 0 < cntTo l (spX st k) (spY st k) n
    · rw [nedN_yes z] at h
      by_cases e : j = nedN n l st k
      · subst e
        rw [nedI_new z]
        exact z
      · rw [nedI_old (by omega)]
        exact ned_lit k j (by omega)
    · rw [nedN_no z] at h
      rw [nedI_no z]
      exact ned_lit k j h
end Go.Proofs.YthjllledhcfnhaaDoor
