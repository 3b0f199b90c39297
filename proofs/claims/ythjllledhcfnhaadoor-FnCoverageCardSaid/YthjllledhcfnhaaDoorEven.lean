/- EvenPowers. Conditions: the slice reads as projectors, one or more. -/
import Derived.Test.YthjllledhcfnhaaDoorProj
import Derived.Test.YthjllledhcfnhaaDoorSProjector
import Derived.Test.YthjllledhcfnhaaDoorMinMax
import Derived.Test.YthjllledhcfnhaaDoorTail
import Derived.LoopN
namespace Go.Ks
open Go.RowKit Go.Lib
/-- the least of x and the powers of the first k -/
def evP (l : Nat → ProjectorD) (x : Int) : Nat → Int
  | 0 => x
  | k + 1 => min (evP l x k) (l k).f4
/-- element k is at its j-th power -/
def evD (n : Nat) (l : Nat → ProjectorD) (k j : Nat) (i : Nat) : ProjectorD := ⟨(l i).f0, (l i).f1, (l i).f2, (l i).f3, if i < k then evP l (l i).f4 n else if i = k then evP l (l k).f4 j else (l i).f4⟩
def mEvenPowersL (n : Nat) (l : Nat → ProjectorD) (i : Nat) : ProjectorD := ⟨(l i).f0, (l i).f1, (l i).f2, (l i).f3, evP l (l i).f4 n⟩
theorem evC_cell {D : Nat → ProjectorD} {i r : Nat} (h : r < 5) : ProjectorC D (i * 5 + r) = ProjectorF D r i := by
  unfold ProjectorC
  rw [rc_at _ _ _ h]
theorem ev_cases (q : Nat) : ∃ i r, r < 5 ∧ q = i * 5 + r := ⟨q / 5, q % 5, Nat.mod_lt _ (by omega), by omega⟩
theorem ev_congr {D D' : Nat → ProjectorD} {n : Nat} (h : ∀ i, i < n → D i = D' i) : ∀ q, q < n * 5 → ProjectorC D q = ProjectorC D' q := fun q hq => by
  obtain ⟨i, r, hr, rfl⟩ := ev_cases q
  have e := h i (by omega)
  rw [evC_cell hr, evC_cell hr]
  match r, hr with
  | 0, _ => show Value.string _ = Value.string _; rw [e]
  | 1, _ => show Value.int .i64 _ = Value.int .i64 _; rw [e]
  | 2, _ => show Value.int .i64 _ = Value.int .i64 _; rw [e]
  | 3, _ => show Value.int .i64 _ = Value.int .i64 _; rw [e]
  | 4, _ => show Value.int .i64 _ = Value.int .i64 _; rw [e]
theorem ev_start (n : Nat) (l : Nat → ProjectorD) : ∀ i, evD n l 0 0 i = l i := fun i => by
  unfold evD
  rw [if_neg (by omega)]
  by_cases h : i = 0
  · rw [if_pos h, h]; rfl
  · rw [if_neg h]
theorem ev_next (n : Nat) (l : Nat → ProjectorD) (k : Nat) : ∀ i, evD n l k n i = evD n l (k + 1) 0 i := fun i => by
  unfold evD
  by_cases h : i < k
  · rw [if_pos h, if_pos (by omega)]
  · by_cases h2 : i = k
    · subst h2; rw [if_neg h, if_pos rfl, if_pos (by omega)]
    · rw [if_neg h, if_neg h2, if_neg (by omega)]
      by_cases h3 : i = k + 1
      · rw [if_pos h3, h3]; rfl
      · rw [if_neg h3]
theorem ev_end (n : Nat) (l : Nat → ProjectorD) : ∀ i, i < n → evD n l n 0 i = mEvenPowersL n l i := fun i hi => by
  unfold evD mEvenPowersL
  rw [if_pos hi]
theorem ev_at (n : Nat) (l : Nat → ProjectorD) (k j : Nat) : (evD n l k j k).f4 = evP l (l k).f4 j := by
  unfold evD
  rw [if_neg (by omega), if_pos rfl]
theorem ev_step (n : Nat) (l : Nat → ProjectorD) (k j : Nat) (q : Nat) : (if q = k * 5 + 4 then Value.int .i64 (evP l (l k).f4 (j + 1)) else ProjectorC (evD n l k j) q) = ProjectorC (evD n l k (j + 1)) q := by
  by_cases h : q = k * 5 + 4
  · rw [if_pos h, h, ProjectorC4, ev_at]
  · rw [if_neg h]
    obtain ⟨i, r, hr, rfl⟩ := ev_cases q
    rw [evC_cell hr, evC_cell hr]
    match r, hr with
    | 0, _ => rfl
    | 1, _ => rfl
    | 2, _ => rfl
    | 3, _ => rfl
    | 4, _ =>
      have hik : i ≠ k := by omega
      show Value.int .i64 (evD n l k j i).f4 = Value.int .i64 (evD n l k (j + 1) i).f4
      unfold evD
      simp only [if_neg hik]
/-- the block of the powers -/
def EvB (w : World) (B : Nat) (t : TypeId) (n : Nat) (D : Nat → ProjectorD) : Prop := ∃ m h, Blk w B t (arr m h) ∧ n * 5 ≤ m ∧ ∀ q, q < n * 5 → h q = ProjectorC D q
theorem EvB.congr {w : World} {B : Nat} {t : TypeId} {n : Nat} {D D' : Nat → ProjectorD} (h : EvB w B t n D) (he : ∀ i, i < n → D i = D' i) : EvB w B t n D' := by
  obtain ⟨m, f, h1, h2, h3⟩ := h
  exact ⟨m, f, h1, h2, fun q hq => (h3 q hq).trans (ev_congr he q hq)⟩
theorem EvB.below {w w' : World} {B : Nat} {t : TypeId} {n : Nat} {D : Nat → ProjectorD} (h : EvB w B t n D) (hb : Below w.heap.size w w') : EvB w' B t n D := by
  obtain ⟨m, f, h1, h2, h3⟩ := h
  exact ⟨m, f, h1.below hb h1.lt, h2, h3⟩
theorem EvB.lt {w : World} {B : Nat} {t : TypeId} {n : Nat} {D : Nat → ProjectorD} (h : EvB w B t n D) : B < w.heap.size := by
  obtain ⟨m, f, h1, _⟩ := h
  exact h1.lt
theorem EvB.cell4 {w : World} {B : Nat} {t : TypeId} {n k : Nat} {D : Nat → ProjectorD} (h : EvB w B t n D) (hk : k < n) : w.cell? ⟨B, k * 5 + 4, none⟩ = some (.int .i64 (D k).f4) := by
  obtain ⟨m, f, h1, h2, h3⟩ := h
  rw [h1.cell, arr_get _ _ _ (by omega), h3 _ (by omega), ProjectorC4]
theorem EvB.open4 {w : World} {B : Nat} {t : TypeId} {n : Nat} {D : Nat → ProjectorD} (h : EvB w B t n D) (i : Nat) : w.frozen? ⟨B, i, none⟩ = false := by
  obtain ⟨m, f, h1, _⟩ := h
  exact h1.frozen i
theorem EvB.put {w : World} {B : Nat} {t : TypeId} {n k j : Nat} {l : Nat → ProjectorD} (h : EvB w B t n (evD n l k j)) : EvB (w.setCell ⟨B, k * 5 + 4, none⟩ (.int .i64 (evP l (l k).f4 (j + 1)))) B t n (evD n l k (j + 1)) := by
  obtain ⟨m, f, h1, h2, h3⟩ := h
  have h4 := h1.set_ (k * 5 + 4) (.int .i64 (evP l (l k).f4 (j + 1)))
  rw [arr_set] at h4
  refine ⟨m, _, h4, h2, fun q hq => ?_⟩
  rw [← ev_step]
  by_cases e : q = k * 5 + 4
  · rw [if_pos e, if_pos e]
  · rw [if_neg e, if_neg e, h3 q hq]
theorem EvB.own {w : World} {B base : Nat} {t : TypeId} {n : Nat} {D : Nat → ProjectorD} (h : EvB w B t n D) (hB : base ≤ B) : Own w base t 5 (some ⟨B, 0, none⟩) n (ProjectorC D) := by
  obtain ⟨m, f, h1, h2, h3⟩ := h
  exact Own.blk h1 hB h2 h3
theorem evP_bd {l : Nat → ProjectorD} {n : Nat} (h : ∀ k, k < n → 1 ≤ (l k).f4 ∧ (l k).f4 ≤ 1000) {x : Int} (hx : 1 ≤ x ∧ x ≤ 1000) : ∀ k, k ≤ n → 1 ≤ evP l x k ∧ evP l x k ≤ 1000
  | 0, _ => hx
  | k + 1, hk => by
    have ih := evP_bd h hx k (by omega)
    have h2 := h k (by omega)
    unfold evP
    omega
end Go.Ks
namespace Go.Proofs.YthjllledhcfnhaaDoor
open Go.RowKit Go.Lib Go.Ks
theorem of_alloc {w w' : World} {cs : Array Value} {t : TypeId} (h : w.alloc (.cells cs t) = w') : Below w.heap.size w w' ∧ Blk w' w.heap.size t cs := by rw [← h]; exact ⟨(Below.refl _ _).alloc (Nat.le_refl _) _, Blk.new w t cs⟩
theorem b_cases (b : Bool) : b = false ∨ b = true := by cases b <;> simp
noncomputable def mEvenPowersN (n : Nat) (l : Nat → ProjectorD) : Nat := if projsB n l = true then n else 0
noncomputable def mEvenPowersC (n : Nat) (l : Nat → ProjectorD) : Int := if projsB n l = true then 0 else 1
section
variable {n : Nat} {l : Nat → ProjectorD}
theorem mEv_no (q : projsB n l = false) : mEvenPowersN n l = 0 ∧ mEvenPowersC n l = 1 := by simp [mEvenPowersN, mEvenPowersC, q]
theorem mEv_in (q : projsB n l = true) : mEvenPowersN n l = n ∧ mEvenPowersC n l = 0 := by simp [mEvenPowersN, mEvenPowersC, q]
theorem mEvenPowers_len (n : Nat) (l : Nat → ProjectorD) : mEvenPowersN n l ≤ 1048576 := by
  unfold mEvenPowersN
  split
  · rename_i h
    have := (projsB_of h).1
    omega
  · omega
end
instance (b off : Nat) : Nonempty {p : Nat × Nat // some (⟨b, off, none⟩ : Addr) = some ⟨p.1, p.2, none⟩} := ⟨⟨(b, off), rfl⟩⟩
theorem sl_at {w : World} {b off m : Nat} {f : Nat → Value} (h : Sl w (some ⟨b, off, none⟩) m f) : ∀ j, j < m → b < w.heap.size ∧ w.cell? ⟨b, off + j, none⟩ = some (f j) := fun j hj => by
  obtain ⟨b', off', hA, hb, hc⟩ := h (by omega)
  cases hA
  exact ⟨hb, hc j hj⟩
theorem retS5 {w w' : World} {f : Nat → Value} {n n' : Nat} {code code' : Int} {B c : Nat} (hn : n = n') (hc : code = code') (ho : Own w' w.heap.size 43 5 (some ⟨B, 0, none⟩) n' f) : RetS w w' 43 5 n f code (.returned (.tuple #[.slice (some ⟨B, 0, none⟩) n' c, .int .i64 code'])) := by
  subst hn hc
  exact ⟨_, c, rfl, ho, fun h => by cases h⟩
theorem rets_none5 {w w' : World} {f : Nat → Value} {n : Nat} {code code' : Int} (hn : n = 0) (hc : code = code') : RetS w w' 43 5 n f code (.returned (.tuple #[.slice none 0 0, .int .i64 code'])) := by
  subst hn hc
  exact ⟨none, 0, rfl, Own.nil _ _ _ _ _, fun _ => rfl⟩
end Go.Proofs.YthjllledhcfnhaaDoor
