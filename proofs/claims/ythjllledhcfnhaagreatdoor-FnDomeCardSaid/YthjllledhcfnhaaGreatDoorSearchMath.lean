/- A search for the point of an image that lies nearest: plain arithmetic, no program. -/
import Derived.Test.YthjllledhcfnhaaGreatDoorWarpMath
namespace Go.Ks

/-- what has been found: a point, the square of its distance (-1: nothing yet) -/
structure St where
  u : Int
  v : Int
  d : Int
def St.Un (u v : Int) : Prop := (0 ≤ u ∧ u ≤ 1000000) ∧ (0 ≤ v ∧ v ≤ 1000000)
instance (u v : Int) : Decidable (St.Un u v) := inferInstanceAs (Decidable (_ ∧ _))
def tryS (f : Int → Int → Int) (u v : Int) (s : St) : St := if St.Un u v then (if s.d < 0 ∨ f u v < s.d then ⟨u, v, f u v⟩ else s) else s
section
variable {f : Int → Int → Int} {u v : Int} {s : St}
theorem tryS_out (h : ¬ St.Un u v) : tryS f u v s = s := if_neg h
theorem tryS_in (h : St.Un u v) (h' : s.d < 0 ∨ f u v < s.d) : tryS f u v s = ⟨u, v, f u v⟩ := by unfold tryS; rw [if_pos h, if_pos h']
theorem tryS_no (h : St.Un u v) (h' : ¬ (s.d < 0 ∨ f u v < s.d)) : tryS f u v s = s := by unfold tryS; rw [if_pos h, if_neg h']
end
def rowS (f : Int → Int → Int) (j : Nat) : Nat → St → St
  | 0, s => s
  | i + 1, s => tryS f (62500 * (i : Int)) (62500 * (j : Int)) (rowS f j i s)
def gridS (f : Int → Int → Int) : Nat → St
  | 0 => ⟨0, 0, -1⟩
  | j + 1 => rowS f j 17 (gridS f j)
/-- row b of the nine neighbours: a = -1, 0, 1 by i = 0, 1, 2 -/
def nbRow (f : Int → Int → Int) (u v s b : Int) : Nat → St → St
  | 0, st => st
  | i + 1, st => tryS f (u + ((i : Int) - 1) * s) (v + b * s) (nbRow f u v s b i st)
def nbS (f : Int → Int → Int) (u v s : Int) : Nat → St → St
  | 0, st => st
  | b + 1, st => nbRow f u v s ((b : Int) - 1) 3 (nbS f u v s b st)
def roundS (f : Int → Int → Int) (s : Int) (st : St) : St := nbS f st.u st.v s 3 st
/-- so many rounds -/
def roundsS (f : Int → Int → Int) (s : Int) : Nat → St → St
  | 0, st => st
  | r + 1, st => roundS f s (roundsS f s r st)
def finS (f : Int → Int → Int) (s : Nat) (st : St) : St := if h : s = 0 then st else finS f (s / 2) (roundsS f (s : Int) 2 st)
termination_by s
theorem finS_zero (f : Int → Int → Int) (st : St) : finS f 0 st = st := by unfold finS; rw [dif_pos rfl]
theorem finS_pos {f : Int → Int → Int} {s : Nat} (h : 0 < s) (st : St) : finS f s st = finS f (s / 2) (roundsS f (s : Int) 2 st) := by rw [finS.eq_1 f s st, dif_neg (by omega)]
def searchS (f : Int → Int → Int) : St := finS f 31250 (gridS f 17)

/-- the state's numbers are a point's -/
def StOk (f : Int → Int → Int) (s : St) : Prop := (s.u = 0 ∧ s.v = 0 ∧ s.d = -1) ∨ (St.Un s.u s.v ∧ s.d = f s.u s.v)
def Fok (f : Int → Int → Int) : Prop := ∀ u v, St.Un u v → 0 ≤ f u v ∧ f u v ≤ 32000000000000
section
variable {f : Int → Int → Int}
theorem StOk.bd {s : St} (h : StOk f s) (hf : Fok f) : (0 ≤ s.u ∧ s.u ≤ 1000000) ∧ (0 ≤ s.v ∧ s.v ≤ 1000000) ∧ (-1 ≤ s.d ∧ s.d ≤ 32000000000000) := by
  rcases h with ⟨h1, h2, h3⟩ | ⟨h1, h2⟩
  · omega
  · have := hf _ _ h1
    obtain ⟨_, _⟩ := h1
    omega
theorem StOk.start : StOk f ⟨0, 0, -1⟩ := .inl ⟨rfl, rfl, rfl⟩
theorem StOk.try {s : St} (h : StOk f s) (u v : Int) : StOk f (tryS f u v s) := by
  unfold tryS
  split
  · rename_i hu
    split
    · exact .inr ⟨hu, rfl⟩
    · exact h
  · exact h
theorem StOk.row {s : St} (h : StOk f s) (j : Nat) : ∀ i, StOk f (rowS f j i s)
  | 0 => h
  | i + 1 => (StOk.row h j i).try _ _
theorem StOk.grid : ∀ j, StOk f (gridS f j)
  | 0 => StOk.start
  | j + 1 => (StOk.grid j).row _ _
theorem StOk.nbr {st : St} (h : StOk f st) (u v s b : Int) : ∀ i, StOk f (nbRow f u v s b i st)
  | 0 => h
  | i + 1 => (StOk.nbr h u v s b i).try _ _
theorem StOk.nb {st : St} (h : StOk f st) (u v s : Int) : ∀ b, StOk f (nbS f u v s b st)
  | 0 => h
  | b + 1 => (StOk.nb h u v s b).nbr _ _ _ _ _
theorem StOk.rounds {st : St} (h : StOk f st) (s : Int) : ∀ r, StOk f (roundsS f s r st)
  | 0 => h
  | r + 1 => (StOk.rounds h s r).nb _ _ _ _
theorem StOk.fin : ∀ (s : Nat) {st : St}, StOk f st → StOk f (finS f s st) := by
  intro s
  induction s using Nat.strongRecOn with
  | _ s ih =>
    intro st h
    rcases Nat.eq_zero_or_pos s with rfl | h0
    · rw [finS_zero]; exact h
    · rw [finS_pos h0]; exact ih _ (by omega) (h.rounds _ _)
theorem search_ok : StOk f (searchS f) := StOk.fin _ (StOk.grid _)

/-- what has been tried lies no nearer -/
def Le (s t : St) : Prop := 0 ≤ t.d → 0 ≤ s.d ∧ s.d ≤ t.d
theorem Le.refl (s : St) : Le s s := fun h => ⟨h, Int.le_refl _⟩
theorem Le.trans {s t r : St} (h : Le s t) (h' : Le t r) : Le s r := fun h0 => by
  obtain ⟨a, b⟩ := h' h0
  obtain ⟨c, d⟩ := h a
  exact ⟨c, by omega⟩
theorem Le.try (hf : Fok f) (s : St) (u v : Int) : Le (tryS f u v s) s := fun h0 => by
  unfold tryS
  split
  · rename_i hu
    have := hf _ _ hu
    split
    · rename_i h
      exact ⟨by show 0 ≤ f u v; omega, by show f u v ≤ s.d; omega⟩
    · exact ⟨h0, Int.le_refl _⟩
  · exact ⟨h0, Int.le_refl _⟩
theorem try_le (hf : Fok f) {s : St} {u v : Int} (hu : St.Un u v) : 0 ≤ (tryS f u v s).d ∧ (tryS f u v s).d ≤ f u v := by
  have := hf _ _ hu
  unfold tryS
  rw [if_pos hu]
  split
  · exact ⟨by show 0 ≤ f u v; omega, Int.le_refl _⟩
  · rename_i h
    exact ⟨by omega, by omega⟩
theorem Le.row (hf : Fok f) (s : St) (j : Nat) : ∀ i, Le (rowS f j i s) s
  | 0 => Le.refl _
  | i + 1 => (Le.try hf _ _ _).trans (Le.row hf s j i)
theorem Le.rowTo (hf : Fok f) (s : St) (j : Nat) : ∀ i k, k ≤ i → Le (rowS f j i s) (rowS f j k s)
  | 0, k, h => by obtain rfl : k = 0 := by omega
                  exact Le.refl _
  | i + 1, k, h => by
    by_cases e : k = i + 1
    · subst e; exact Le.refl _
    · exact (Le.try hf _ _ _).trans (Le.rowTo hf s j i k (by omega))
theorem Le.gridTo (hf : Fok f) : ∀ i k, k ≤ i → Le (gridS f i) (gridS f k)
  | 0, k, h => by obtain rfl : k = 0 := by omega
                  exact Le.refl _
  | i + 1, k, h => by
    by_cases e : k = i + 1
    · subst e; exact Le.refl _
    · exact (Le.row hf _ _ _).trans (Le.gridTo hf i k (by omega))
theorem Le.nbr (hf : Fok f) (st : St) (u v s b : Int) : ∀ i k, k ≤ i → Le (nbRow f u v s b i st) (nbRow f u v s b k st)
  | 0, k, h => by obtain rfl : k = 0 := by omega
                  exact Le.refl _
  | i + 1, k, h => by
    by_cases e : k = i + 1
    · subst e; exact Le.refl _
    · exact (Le.try hf _ _ _).trans (Le.nbr hf st u v s b i k (by omega))
theorem Le.nb (hf : Fok f) (st : St) (u v s : Int) : ∀ i k, k ≤ i → Le (nbS f u v s i st) (nbS f u v s k st)
  | 0, k, h => by obtain rfl : k = 0 := by omega
                  exact Le.refl _
  | i + 1, k, h => by
    by_cases e : k = i + 1
    · subst e; exact Le.refl _
    · exact (Le.nbr hf _ u v s _ 3 0 (by omega)).trans (Le.nb hf st u v s i k (by omega))
theorem Le.rounds (hf : Fok f) (s : Int) (st : St) : ∀ r, Le (roundsS f s r st) st
  | 0 => Le.refl _
  | r + 1 => (Le.nb hf _ _ _ _ 3 0 (by omega)).trans (Le.rounds hf s st r)
theorem Le.fin (hf : Fok f) : ∀ (s : Nat) (st : St), Le (finS f s st) st := by
  intro s
  induction s using Nat.strongRecOn with
  | _ s ih =>
    intro st
    rcases Nat.eq_zero_or_pos s with rfl | h0
    · rw [finS_zero]; exact Le.refl _
    · rw [finS_pos h0]; exact (ih _ (by omega) _).trans (Le.rounds hf _ _ _)
theorem grid_le (hf : Fok f) {i j : Nat} (hi : i < 17) (hj : j < 17) : 0 ≤ (gridS f 17).d ∧ (gridS f 17).d ≤ f (62500 * (i : Int)) (62500 * (j : Int)) := by
  have hu : St.Un (62500 * (i : Int)) (62500 * (j : Int)) := ⟨by omega, by omega⟩
  obtain ⟨a, b⟩ := try_le (s := rowS f j i (gridS f j)) hf hu
  have h1 : Le (gridS f (j + 1)) (rowS f j (i + 1) (gridS f j)) := Le.rowTo hf _ _ 17 (i + 1) (by omega)
  have h2 : Le (gridS f 17) (gridS f (j + 1)) := Le.gridTo hf 17 (j + 1) (by omega)
  obtain ⟨c, d⟩ := (h2.trans h1) a
  exact ⟨c, by show _ ≤ _; have : (rowS f j (i + 1) (gridS f j)).d ≤ f (62500 * (i : Int)) (62500 * (j : Int)) := b; omega⟩
theorem search_le (hf : Fok f) {i j : Nat} (hi : i < 17) (hj : j < 17) : 0 ≤ (searchS f).d ∧ (searchS f).d ≤ f (62500 * (i : Int)) (62500 * (j : Int)) := by
  obtain ⟨a, b⟩ := grid_le hf hi hj
  obtain ⟨c, d⟩ := Le.fin hf 31250 _ a
  exact ⟨c, by unfold searchS; omega⟩
theorem search_at (hf : Fok f) : St.Un (searchS f).u (searchS f).v ∧ (searchS f).d = f (searchS f).u (searchS f).v := by
  have h := search_le hf (i := 0) (j := 0) (by omega) (by omega)
  rcases search_ok (f := f) with ⟨_, _, h3⟩ | h3
  · omega
  · exact h3
end
end Go.Ks
