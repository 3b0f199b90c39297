/- Draws: the state of a draw that makes one struct. Conditions: the code is shorter than 2^20. -/
import Derived.Test.YthjllledhcfnhaaGreatDoorSrc
import Derived.Test.YthjllledhcfnhaaGreatDoorB10
import Derived.Test.YthjllledhcfnhaaGreatDoorAppendStep
namespace Go.Ks
open Go.RowKit Go.Lib
section
variable {w w1 w' : World} {base : Nat} {e : TypeId} {size : Nat} {v : Value} {n : Nat} {f : Nat → Value} {s : Nat}
theorem Row.only (h : Row w base e size v n f) (hg : w.grownBy w' (some s)) (hs : s < base) : Row w' base e size v n f := by
  refine ⟨h.1, ?_⟩
  rcases h.2 with h2 | ⟨g, cap, cur, hv, hb, hh, r⟩
  · exact .inl h2
  · refine .inr ⟨g, cap, cur, hv, hb, (hg.block g (Array.getElem?_eq_some_iff.1 hh).1 (fun he => ?_)).trans hh, r⟩
    injection he with he
    omega
theorem Row.far (h : Row w base e size v n f) : ∀ b, v.ownBlock = some b → base ≤ b := fun b hb => (h.lt b hb).1
theorem only_row (hg : w.grownBy w1 (some s)) (h : Row w1 base e size v n f) (hb : w.heap.size ≤ base) (hg2 : w1.grownBy w' v.ownBlock) : w.grownBy w' (some s) :=
  hg.andThen hg2 (fun j hj => .inl (Nat.le_trans hb (h.lt j hj).1))
theorem Row.lit1 (W : World) (cs : Array Value) (hb : base ≤ W.heap.size) (hs : cs.size = 1 * size) (hf : ∀ j, j < 1 * size → cs[j]? = some (f j)) : Row (W.alloc (.cells cs e)) base e size (.slice (some ⟨W.heap.size, 0, none⟩) 1 1) 1 f := by
  have := World.ownsRow_lit (size := size) (e := e) W cs 1 hb (by decide) hs
  unfold Row
  have he : cs.toList = cellsTo (1 * size) f := by
    apply List.ext_getElem?
    intro j
    by_cases hj : j < 1 * size
    · rw [cellsTo_get hj, Array.getElem?_toList, hf j hj]
    · rw [List.getElem?_eq_none (by simp; omega), List.getElem?_eq_none (by rw [cellsTo_len]; omega)]
  rw [← he]
  exact this
/-- the row of one element or more has a block -/
theorem Row.blk (h : Row w base e size v (n + 1) f) : ∃ B c m g, v = .slice (some ⟨B, 0, none⟩) (n + 1) c ∧ n + 1 ≤ c ∧ base ≤ B ∧ Blk w B e (arr m g) ∧ (n + 1) * size ≤ m ∧ ∀ j, j < (n + 1) * size → g j = f j := by
  obtain ⟨A, c, rfl, hc, hown, _⟩ := h.own
  rcases hown with ⟨_, h0⟩ | ⟨B, m, g, rfl, hB, hk, hm, hf⟩
  · omega
  · exact ⟨B, c, m, g, rfl, hc, hB, hk, hm, hf⟩
end
theorem Own.only {w w' : World} {base : Nat} {e : TypeId} {size : Nat} {A : Option Addr} {n : Nat} {f : Nat → Value} {s : Nat} (h : Own w base e size A n f) (hg : w.grownBy w' (some s)) (hs : s < base) : Own w' base e size A n f := by
  rcases h with h | ⟨B, m, g, hA, hB, hk, r⟩
  · exact .inl h
  · exact .inr ⟨B, m, g, hA, hB, (hg.block B hk.lt (fun he => by injection he with he; omega)).trans hk, r⟩
theorem below_by {w w1 w' : World} {s : Nat} (h : Below w.heap.size w w1) (hg : w1.grownBy w' (some s)) (hs : w.heap.size ≤ s) : Below w.heap.size w w' :=
  h.grown hg h.size (fun k hk => by injection hk with hk; omega)
theorem bel_alloc {w w' : World} {o : Obj} (h : w.alloc o = w') : Below w.heap.size w w' := by rw [← h]; exact (Below.refl _ _).alloc (Nat.le_refl _) _
theorem cells_alloc {w w' : World} {cs : Array Value} {t : TypeId} (h : w.alloc (.cells cs t) = w') : Blk w' w.heap.size t cs := by rw [← h]; exact Blk.new w t cs
end Go.Ks
namespace Go.Proofs.YthjllledhcfnhaaGreatDoor
open Go.RowKit Go.Lib Go.Ks
/-- the state of a draw: block R holds the result, block P the projector that is made -/
structure St (w : World) (s : Nat) (A : Option Addr) (n c : Nat) (l : Nat → Int) (R P : Nat) (t : TypeId) (cr : Array Value) (k : Nat) (cp : Array Value) (wI : World) : Prop where
  g : w.grownBy wI (some s)
  src : Src wI s A n c l k
  r : Blk wI R t cr
  p : Blk wI P t cp
  hs : s < w.heap.size
  hR : w.heap.size ≤ R
  hP : w.heap.size ≤ P
  ne : R ≠ P
section
variable {w wI w2 : World} {s : Nat} {A : Option Addr} {n c : Nat} {l : Nat → Int} {R P : Nat} {t : TypeId} {cr cp : Array Value} {k k' : Nat}
theorem code_lt (h : Src w s A n c l k) : ∀ ad, A = some ad → 0 < n * 1 → ad.block < w.heap.size := fun ad e hm => by
  obtain ⟨b, off, e2, hb, _⟩ := h.code hm
  rw [e] at e2
  injection e2 with e2
  rw [e2]
  exact hb
theorem St.alloc (h : St w s A n c l R P t cr k cp wI) {o : Obj} (hV : wI.alloc o = w2) : St w s A n c l R P t cr k cp w2 :=
  ⟨only_then h.g (bel_alloc hV), h.src.below (bel_alloc hV), h.r.below (bel_alloc hV) h.r.lt, h.p.below (bel_alloc hV) h.p.lt, h.hs, h.hR, h.hP, h.ne⟩
theorem St.draw (h : St w s A n c l R P t cr k cp wI) (hs : Src w2 s A n c l k') (hg : wI.grownBy w2 (some s)) : St w s A n c l R P t cr k' cp w2 :=
  ⟨h.g.trans hg, hs, blk_grown h.r hg (fun e => by injection e with e; have := h.hs; have := h.hR; omega), blk_grown h.p hg (fun e => by injection e with e; have := h.hs; have := h.hP; omega), h.hs, h.hR, h.hP, h.ne⟩
theorem St.put (h : St w s A n c l R P t cr k cp wI) (h0 : Src w s A n c l 0 ∨ ∀ ad, A = some ad → 0 < n * 1 → ad.block < w.heap.size) (i : Nat) (v : Value) (hV : wI.setCell ⟨P, i, none⟩ v = w2) : St w s A n c l R P t cr k (cp.setIfInBounds i v) w2 := by
  have far : ∀ ad, A = some ad → 0 < n * 1 → ad.block < w.heap.size := by
    rcases h0 with h0 | h0
    · exact code_lt h0
    · exact h0
  subst hV
  exact ⟨only_setCell h.g (.inr h.hP) v, h.src.grown (only_setCell (World.grownBy.refl wI (some P)) (p := ⟨P, i, none⟩) (.inl rfl) v) (fun b e => by injection e with e; subst e; exact ⟨by have := h.hs; have := h.hP; omega, fun ad he hm => by have := far ad he hm; have := h.hP; omega⟩), h.r.far (p := ⟨P, i, none⟩) h.ne v, h.p.set_ i v, h.hs, h.hR, h.hP, h.ne⟩
theorem St.putR (h : St w s A n c l R P t cr k cp wI) (h0 : Src w s A n c l 0 ∨ ∀ ad, A = some ad → 0 < n * 1 → ad.block < w.heap.size) (i : Nat) (v : Value) (hV : wI.setCell ⟨R, i, none⟩ v = w2) : St w s A n c l R P t (cr.setIfInBounds i v) k cp w2 := by
  have far : ∀ ad, A = some ad → 0 < n * 1 → ad.block < w.heap.size := by
    rcases h0 with h0 | h0
    · exact code_lt h0
    · exact h0
  subst hV
  exact ⟨only_setCell h.g (.inr h.hR) v, h.src.grown (only_setCell (World.grownBy.refl wI (some R)) (p := ⟨R, i, none⟩) (.inl rfl) v) (fun b e => by injection e with e; subst e; exact ⟨by have := h.hs; have := h.hR; omega, fun ad he hm => by have := far ad he hm; have := h.hR; omega⟩), h.r.set_ i v, h.p.far (p := ⟨R, i, none⟩) (fun e => h.ne e.symm) v, h.hs, h.hR, h.hP, h.ne⟩
end
theorem st_bend {w w0 : World} {s : Nat} {A : Option Addr} {n c : Nat} {l : Nat → Int} {k : Nat} {t : TypeId} {cr cp : Array Value} (h : Src w s A n c l k) (hV : (w.alloc (.cells cp t)).alloc (.cells cr t) = w0) : St w s A n c l (w.heap.size + 1) w.heap.size t cr k cp w0 := by
  have b1 := (Below.refl w.heap.size w).alloc (Nat.le_refl _) (.cells cp t)
  have b2 := (Below.refl (w.alloc (.cells cp t)).heap.size (w.alloc (.cells cp t))).alloc (Nat.le_refl _) (.cells cr t)
  rw [hV] at b2
  have e : (w.alloc (.cells cp t)).heap.size = w.heap.size + 1 := by simp
  have g := only_then (only_of_below b1 (some s)) b2
  have r := cells_alloc hV
  rw [e] at r
  exact ⟨g, (h.below b1).below b2, r, (Blk.new w t cp).below b2 (by omega), h.lt, by omega, Nat.le_refl _, by omega⟩
end Go.Proofs.YthjllledhcfnhaaGreatDoor
