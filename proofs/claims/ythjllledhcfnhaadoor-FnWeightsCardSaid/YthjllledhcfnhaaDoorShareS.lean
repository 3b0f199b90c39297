/- The shares of projectors at a direction: what the reference answers. Conditions: valid projectors. -/
import Derived.Test.YthjllledhcfnhaaDoorShares
namespace Go.Ks
open Go.RowKit Go.Lib
/-- a block whose first n cells are the numbers F -/
def IB (w : World) (P : Nat) (t : TypeId) (n : Nat) (F : Nat → Int) : Prop := ∃ m h, Blk w P t (arr m h) ∧ n ≤ m ∧ ∀ x, x < n → h x = .int .i64 (F x)
section
variable {w w' : World} {P : Nat} {t : TypeId} {n : Nat} {F : Nat → Int}
theorem IB.lt (h : IB w P t n F) : P < w.heap.size := by obtain ⟨m, f, hk, _⟩ := h; exact hk.lt
theorem IB.cell (h : IB w P t n F) {i : Nat} (hi : i < n) : w.cell? ⟨P, i, none⟩ = some (.int .i64 (F i)) := by
  obtain ⟨m, f, hk, hm, hf⟩ := h
  rw [hk.cell, arr_get _ _ _ (by omega), hf i hi]
theorem IB.frozen (h : IB w P t n F) (i : Nat) : w.frozen? ⟨P, i, none⟩ = false := by obtain ⟨m, f, hk, _⟩ := h; exact hk.frozen i
theorem IB.below (h : IB w P t n F) (hb : Below w.heap.size w w') : IB w' P t n F := by obtain ⟨m, f, hk, r⟩ := h; exact ⟨m, f, hk.below hb hk.lt, r⟩
theorem IB.far (h : IB w P t n F) {p : Addr} (hp : P ≠ p.block) (u : Value) : IB (w.setCell p u) P t n F := by obtain ⟨m, f, hk, r⟩ := h; exact ⟨m, f, hk.far hp u, r⟩
theorem IB.set (h : IB w P t n F) (i : Nat) (u : Int) : IB (w.setCell ⟨P, i, none⟩ (.int .i64 u)) P t n (upd F i u) := by
  obtain ⟨m, f, hk, hm, hf⟩ := h
  have q := hk.set_ i (.int .i64 u)
  rw [arr_set] at q
  refine ⟨m, _, q, hm, fun x hx => ?_⟩
  unfold upd
  by_cases e : x = i
  · simp [e]
  · simp only [if_neg e]; exact hf x hx
theorem IB.own (h : IB w P t n F) {base : Nat} (hb : base ≤ P) : Own w base t 1 (some ⟨P, 0, none⟩) n (fun j => .int .i64 (F j)) := by
  obtain ⟨m, f, hk, hm, hf⟩ := h
  exact Own.blk hk hb (by omega) (fun j hj => hf j (by omega))
theorem IB.of_row {base c : Nat} (h : Row w base t 1 (.slice (some ⟨P, 0, none⟩) n c) n (fun j => .int .i64 (F j))) (hn : 0 < n) : IB w P t n F ∧ base ≤ P := by
  obtain ⟨A, c', hv, _, hown, _⟩ := h.own
  rcases hown with ⟨_, h0⟩ | ⟨B, m, g, hA, hb, hk, hm, hf⟩
  · omega
  · rw [hA] at hv
    have hB : P = B := by
      injection hv with h1 _ _
      injection h1 with h2
      injection h2
    subst hB
    exact ⟨⟨m, g, hk, by omega, fun x hx => hf x (by omega)⟩, hb⟩
theorem int_one {f : Nat → Value} {j0 : Nat} {q : Int} (h : f (j0 + 0) = .int .i64 q) : ∀ j, j < 1 → (f (j0 + j)).oneCell' = true := fun j hj => by
  obtain rfl : j = 0 := by omega
  rw [h]
  rfl
theorem int_news {w : World} {t : TypeId} {f : Nat → Value} {j0 g : Nat} {q : Int} (hg : g = w.heap.size) (h : f (j0 + 0) = .int .i64 q) : ∀ j, j < 1 → (w.alloc (.cells #[.int .i64 q] t)).cell? ⟨g, j, none⟩ = some (f (j0 + j)) := fun j hj => by
  subst hg
  obtain rfl : j = 0 := by omega
  rw [(Blk.new w t #[.int .i64 q]).cell, h]
  rfl
end
end Go.Ks
namespace Go.Proofs.YthjllledhcfnhaaDoor
open Go.RowKit Go.Lib Go.Ks
end Go.Proofs.YthjllledhcfnhaaDoor
