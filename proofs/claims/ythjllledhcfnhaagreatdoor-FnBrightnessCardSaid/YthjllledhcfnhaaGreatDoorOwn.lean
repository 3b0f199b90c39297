/- Slices that a call has made: what they hold, and that a write elsewhere leaves them. General lemmas, no program. -/
import Derived.Test.YthjllledhcfnhaaGreatDoorBase
namespace Go.Ks
open Go.RowKit Go.Lib

/-- the slice value .slice A n _ has its cells in a block of its own, numbered base or more; its first n * size cells are these -/
def Own (w : World) (base : Nat) (e : TypeId) (size : Nat) (A : Option Addr) (n : Nat) (f : Nat → Value) : Prop :=
  (A = none ∧ n = 0) ∨ ∃ B m h, A = some ⟨B, 0, none⟩ ∧ base ≤ B ∧ Blk w B e (arr m h) ∧ n * size ≤ m ∧ ∀ j, j < n * size → h j = f j
section
variable {w w' : World} {base : Nat} {e : TypeId} {size : Nat} {A : Option Addr} {n : Nat} {f : Nat → Value}
theorem Own.nil (w : World) (base : Nat) (e : TypeId) (size : Nat) (f : Nat → Value) : Own w base e size none 0 f := .inl ⟨rfl, rfl⟩
theorem Own.sl (h : Own w base e size A n f) : Sl w A (n * size) f := by
  rcases h with ⟨_, rfl⟩ | ⟨B, m, g, rfl, _, hk, hm, hf⟩
  · exact fun h => absurd h (by omega)
  · exact (hk.sl_arr hm).congr hf
theorem Own.congr {f' : Nat → Value} (h : Own w base e size A n f) (hf' : ∀ j, j < n * size → f j = f' j) : Own w base e size A n f' := by
  rcases h with h | ⟨B, m, g, hA, hb, hk, hm, hf⟩
  · exact .inl h
  · exact .inr ⟨B, m, g, hA, hb, hk, hm, fun j hj => (hf j hj).trans (hf' j hj)⟩
theorem Own.mono {base' : Nat} (h : Own w base e size A n f) (hb' : base' ≤ base) : Own w base' e size A n f := by
  rcases h with h | ⟨B, m, g, hA, hb, r⟩
  · exact .inl h
  · exact .inr ⟨B, m, g, hA, by omega, r⟩
theorem Own.below (h : Own w base e size A n f) (hb : Below w.heap.size w w') : Own w' base e size A n f := by
  rcases h with h | ⟨B, m, g, hA, hB, hk, r⟩
  · exact .inl h
  · exact .inr ⟨B, m, g, hA, hB, hk.below hb hk.lt, r⟩
theorem Own.blk {B m : Nat} {g : Nat → Value} (h : Blk w B e (arr m g)) (hb : base ≤ B) (hm : n * size ≤ m) (hf : ∀ j, j < n * size → g j = f j) : Own w base e size (some ⟨B, 0, none⟩) n f := .inr ⟨B, m, g, rfl, hb, h, hm, hf⟩
/-- the block of a slice value -/
def blockOf (A : Option Addr) : Option Nat := A.map (·.block)
/-- every cell lies below block number N -/
def Under (N : Nat) (A : Option Addr) (m : Nat) : Prop := ∀ ad, A = some ad → 0 < m → ad.block < N
def Over (N : Nat) (A : Option Addr) : Prop := ∀ ad, A = some ad → N ≤ ad.block
theorem Sl.under {m : Nat} (h : Sl w A m f) : Under w.heap.size A m := fun ad hA hm => by
  obtain ⟨b, off, hA', hlt, _⟩ := h hm
  rw [hA'] at hA
  cases hA
  exact hlt
theorem Under.mono {N N' m : Nat} (h : Under N A m) (hN : N ≤ N') : Under N' A m := fun ad hA hm => Nat.lt_of_lt_of_le (h ad hA hm) hN
theorem Own.over (h : Own w base e size A n f) : Over base A := fun ad hA => by
  rcases h with ⟨h, _⟩ | ⟨B, _, _, h, hb, _⟩
  · rw [h] at hA; cases hA
  · rw [h] at hA; cases hA; exact hb
theorem Over.mono {N N' : Nat} (h : Over N A) (hN : N' ≤ N) : Over N' A := fun ad hA => Nat.le_trans hN (h ad hA)
/-- a write into another slice's block leaves the slice -/
theorem Sl.kept {m N : Nat} {A' : Option Addr} (h : Sl w A m f) (hu : Under N A m) (ho : Over N A') (hg : w.grownBy w' (blockOf A')) : Sl w' A m f := fun hm => by
  obtain ⟨b, off, rfl, hlt, hc⟩ := h hm
  have hb : b < N := hu _ rfl hm
  refine ⟨b, off, rfl, Nat.lt_of_lt_of_le hlt hg.size, fun j hj => (World.cell?_of_block (a := ⟨b, off + j, none⟩) (hg.block b hlt (fun e => ?_))).trans (hc j hj)⟩
  cases hA : A' with
  | none => rw [hA] at e; simp [blockOf] at e
  | some ad => rw [hA] at e; simp [blockOf] at e; have := ho ad hA; omega
def Und (N : Nat) (A : Option Addr) : Prop := ∀ ad, A = some ad → ad.block < N
theorem Own.und (h : Own w base e size A n f) : Und w.heap.size A := fun ad hA => by
  rcases h with ⟨h, _⟩ | ⟨B, _, _, h, _, hk, _⟩
  · rw [h] at hA; cases hA
  · rw [h] at hA; cases hA; exact hk.lt
/-- a write into another slice's block leaves the slice -/
theorem Own.kept {A' : Option Addr} (h : Own w base e size A n f) (hd : ∀ a b, A = some a → A' = some b → a.block ≠ b.block) (hg : w.grownBy w' (blockOf A')) : Own w' base e size A n f := by
  rcases h with h | ⟨B, m', g, hA, hB, hk, r⟩
  · exact .inl h
  · refine .inr ⟨B, m', g, hA, hB, ?_, r⟩
    have hlt := hk.lt
    unfold Blk at hk ⊢
    rw [hg.block B hlt (fun e => ?_)]
    · exact hk
    · cases hA' : A' with
      | none => rw [hA'] at e; simp [blockOf] at e
      | some ad => rw [hA'] at e; simp [blockOf] at e; exact hd _ _ hA hA' e
theorem Below.only {B : Nat} {a : World} (h : Below B a w) (ho : Over B A) (hB : B ≤ w.heap.size) (hg : w.grownBy w' (blockOf A)) : Below B a w' :=
  h.grown hg hB (fun k hk => by
    cases hA : A with
    | none => rw [hA] at hk; simp [blockOf] at hk
    | some ad => rw [hA] at hk; simp [blockOf] at hk; have := ho ad hA; omega)
theorem blk_of_heap {w : World} {B : Nat} {e : TypeId} {cur : Array Value} (h : w.heap[B]? = some (.cells cur e (0, 0))) : Blk w B e (arr cur.size (fun j => cur.getD j undef)) := by
  have : cur = arr cur.size (fun j => cur.getD j undef) := by
    apply Array.ext_getElem?
    intro j
    rw [arr_get?]
    by_cases hj : j < cur.size
    · rw [if_pos hj, Array.getElem?_eq_getElem hj]; simp [hj]
    · rw [if_neg hj, Array.getElem?_eq_none (by omega)]
  unfold Blk
  rw [← this]
  exact h
/-- from the library's own word for a slice of the call's own -/
theorem Own.of_row {v : Value} {xs : List Value} {size' : Nat} (h : w.ownsRow base e size' v n xs) (hs : size' = size) (hf : ∀ j, j < n * size → xs[j]? = some (f j)) : ∃ A c, v = .slice A n c ∧ n ≤ c ∧ Own w base e size A n f ∧ (A = none → c = 0) := by
  subst hs
  rcases h.2 with ⟨rfl, rfl⟩ | ⟨g, cap, cur, rfl, hb, hg, hnc, _, hcs, htake⟩
  · exact ⟨none, 0, rfl, Nat.le_refl _, .inl ⟨rfl, rfl⟩, fun _ => rfl⟩
  · refine ⟨_, cap, rfl, hnc, Own.blk (blk_of_heap hg) hb (by rw [hcs]; exact Nat.mul_le_mul_right _ hnc) (fun j hj => ?_), fun h => by cases h⟩
    have h1 := hf j hj
    rw [← htake, List.getElem?_take, if_pos hj, Array.getElem?_toList] at h1
    simp [h1]
end
section
variable {w w' W : World} {b base size n m : Nat} {t e : TypeId} {cs : Array Value} {A : Option Addr} {f : Nat → Value}
theorem below_then {a : World} (h : Below a.heap.size a W) (c : Below W.heap.size W w') : Below a.heap.size a w' := h.trans (c.mono h.size)
theorem blk_then (x : Blk w b t cs) (h : Below w.heap.size w W) (c : Below W.heap.size W w') : Blk w' b t cs := (x.below h x.lt).below c (x.below h x.lt).lt
theorem blk_step (x : Blk w b t cs) (c : Below w.heap.size w w') : Blk w' b t cs := x.below c x.lt
/-- a block of another element type is not the slice's -/
theorem blk_kept_own (x : Blk w b t cs) (o : Own w base e size A n f) (hne : t ≠ e) (hg : w.grownBy w' (blockOf A)) : Blk w' b t cs := by
  have hlt := x.lt
  unfold Blk at x ⊢
  rw [hg.block b hlt (fun he => ?_)]
  · exact x
  · rcases o with ⟨rfl, _⟩ | ⟨B, m, h, rfl, _, hk, _⟩
    · cases he
    · have : B = b := by simpa [blockOf] using he.symm
      subst this
      unfold Blk at hk
      rw [x] at hk
      injection hk with hk
      injection hk with _ hk _
      exact hne hk
end
/-- a block that was made just before a call -/
theorem made_step {w v : World} {t : TypeId} {cs : Array Value} (h : Below (w.alloc (.cells cs t)).heap.size (w.alloc (.cells cs t)) v) : Blk v w.heap.size t cs := (Blk.new w t cs).below h (Blk.new w t cs).lt
theorem made_step' {w v : World} {t : TypeId} {cs : Array Value} (h : Below (w.alloc (.cells cs t)).drew.heap.size (w.alloc (.cells cs t)).drew v) : Blk v w.heap.size t cs := Blk.below (w := (w.alloc (.cells cs t)).drew) (Blk.new w t cs).drew h (Blk.new w t cs).drew.lt
/-- the cells of a list of rows -/
def cellsTo (m : Nat) (f : Nat → Value) : List Value := (List.range m).map f
theorem cellsTo_get {m : Nat} {f : Nat → Value} {j : Nat} (h : j < m) : (cellsTo m f)[j]? = some (f j) := by simp [cellsTo, h]
theorem cellsTo_len (m : Nat) (f : Nat → Value) : (cellsTo m f).length = m := by simp [cellsTo]
theorem cellsTo_add (m d : Nat) (f : Nat → Value) : cellsTo (m + d) f = cellsTo m f ++ (List.range d).map (fun i => f (m + i)) := by
  apply List.ext_getElem?
  intro j
  by_cases h : j < m
  · rw [List.getElem?_append_left (by rw [cellsTo_len]; exact h), cellsTo_get h, cellsTo_get (by omega)]
  · rw [List.getElem?_append_right (by rw [cellsTo_len]; omega), cellsTo_len]
    by_cases h2 : j < m + d
    · rw [cellsTo_get h2]; simp [show j - m < d from by omega, show m + (j - m) = j from by omega]
    · rw [List.getElem?_eq_none (by rw [cellsTo_len]; omega), List.getElem?_eq_none (by simp; omega)]
theorem cellsTo_congr {m : Nat} {f g : Nat → Value} (h : ∀ j, j < m → f j = g j) : cellsTo m f = cellsTo m g := List.map_congr_left (fun j hj => h j (by simpa using hj))

def tup2 (a b : Value) : Ending := .returned (.tuple #[a, b])
/-- a slice of the call's own and a code -/
def RetS (w w' : World) (e : TypeId) (size n : Nat) (f : Nat → Value) (code : Int) (r : Ending) : Prop :=
  ∃ A c, r = .returned (.tuple #[.slice A n c, .int .i64 code]) ∧ Own w' w.heap.size e size A n f ∧ (A = none → c = 0)
theorem ret_tup {a a' b b' : Int} (h : a = a') (h' : b = b') : Ending.returned (.tuple #[.int .i64 a, .int .i64 b]) = .returned (.tuple #[.int .i64 a', .int .i64 b']) := by rw [h, h']
theorem ret_tup3 {a a' b b' c c' : Int} (h : a = a') (h' : b = b') (h'' : c = c') : Ending.returned (.tuple #[.int .i64 a, .int .i64 b, .int .i64 c]) = .returned (.tuple #[.int .i64 a', .int .i64 b', .int .i64 c']) := by rw [h, h', h'']
end Go.Ks
