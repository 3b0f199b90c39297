/- append of one element to a slice that the call itself made, the elements of several cells. General, no program. -/
import Derived.Test.YthjllledhcfnhaaGreatDoorOwn
namespace Go.Ks
open Go.RowKit Go.Lib

/-- a slice of the call's own, block number base or more, n elements of size cells each -/
def Row (w : World) (base : Nat) (e : TypeId) (size : Nat) (v : Value) (n : Nat) (f : Nat → Value) : Prop := w.ownsRow base e size v n (cellsTo (n * size) f)
section
variable {w w' : World} {base : Nat} {e : TypeId} {size : Nat} {v : Value} {n : Nat} {f : Nat → Value}
theorem Row.nil (w : World) (base : Nat) (e : TypeId) (size : Nat) (f : Nat → Value) : Row w base e size (.slice none 0 0) 0 f := by
  unfold Row
  rw [Nat.zero_mul]
  exact World.ownsRow_nil _ _ _ _
theorem Row.empty (w : World) {base : Nat} (e : TypeId) (size : Nat) (f : Nat → Value) (hb : base ≤ w.heap.size) : Row (w.alloc (.cells #[] e)) base e size (.slice (some ⟨w.heap.size, 0, none⟩) 0 0) 0 f := by
  unfold Row
  have := World.ownsRow_lit (size := size) (e := e) w #[] 0 hb (Nat.zero_le _) (by simp)
  rw [Nat.zero_mul]
  exact this
theorem Row.alloc (h : Row w base e size v n f) (o : Obj) : Row (w.alloc o) base e size v n f := World.ownsRow.alloc h o
theorem Row.below (h : Row w base e size v n f) (hb : Below w.heap.size w w') : Row w' base e size v n f := by
  refine ⟨h.1, ?_⟩
  rcases h.2 with h2 | ⟨g, cap, cur, hv, hg, hh, r⟩
  · exact .inl h2
  · exact .inr ⟨g, cap, cur, hv, hg, (hb.block g (Array.getElem?_eq_some_iff.1 hh).1).trans hh, r⟩
theorem Row.congr {f' : Nat → Value} (h : Row w base e size v n f) (he : ∀ j, j < n * size → f j = f' j) : Row w base e size v n f' := by
  unfold Row at *
  rw [← cellsTo_congr he]
  exact h
theorem Row.own (h : Row w base e size v n f) : ∃ A c, v = .slice A n c ∧ n ≤ c ∧ Own w base e size A n f ∧ (A = none → c = 0) := Own.of_row h rfl (fun _ hj => cellsTo_get hj)
theorem Row.lt (h : Row w base e size v n f) : ∀ k, v.ownBlock = some k → base ≤ k ∧ k < w.heap.size := World.ownsRow.lt h
/-- what the append leaves, in one word: the row, and nothing below base has turned -/
theorem Row.after {B : Nat} {a w1 : World} {v' : Value} (hw : Below B a w) (hbase : B ≤ base) (hB : B ≤ w.heap.size) (h : Row w base e size v n f) (hg : w.grownBy w1 v.ownBlock) (_h' : Row w1 base e size v' (n + 1) f) : Below B a w1 :=
  hw.grown hg hB (fun k hk => by have := (h.lt k hk).1; omega)

theorem wpList_append_row {P : Program} {ops : Array Oper} {rest : List Oper} {o : Oper} {a : Act} {Q : Exit → Act → World → Prop} (hgd : o.guard = none) (s x : Operand) (t : TypeId)
    (ho : o.op = .call { callee := .builtin .append, args := #[s, x], argTypes := #[t, t] })
    (base : Nat) (e : TypeId) (i : TypeInfo) (z : Value) (size bytes : Nat) (ht : P.underlying t = some (.slice e)) (hi : P.info? e = some i) (hz : i.zero = some z)
    (hsize : i.size = size) (hby : i.bytes = bytes) (hzs : z.cells.size = size) (hsz : 0 < size)
    (v : Value) (n : Nat) (f : Nat → Value) (hs : a.eval s = v) (hown : Row w base e size v n f)
    (g c : Nat) (hx : a.eval x = .slice (some ⟨g, 0, none⟩) 1 c) (hnews : ∀ j, j < size → w.cell? ⟨g, j, none⟩ = some (f (n * size + j))) (h1 : ∀ j, j < size → (f (n * size + j)).oneCell' = true)
    (hbytes : (n + 1) * bytes ≤ 140737488355328) (hn : n ≤ 4611686018427387904) (hbase : base ≤ w.heap.size)
    (h : ∀ v' w', Row w' base e size v' (n + 1) f → w.grownBy w' v.ownBlock → wpList P ops Q rest (a.put o.dst v') w') : wpList P ops Q (o :: rest) a w := by
  refine wpList_append_own w hgd s x t ho base e i z size bytes ht hi hz hsize hby hzs hsz v n _ hs hown ⟨g, 0, none⟩ 1 c ((List.range size).map (fun j => f (n * size + j))) hx (by simp) ?_ ?_ (by unfold maxLen; omega) hbytes hbase ?_
  · intro j u hu
    have hj : j < size := by
      have := (List.getElem?_eq_some_iff.1 hu).1
      simpa using this
    have : (⟨g, 0, none⟩ : Addr).add j = ⟨g, j, none⟩ := by
      unfold Addr.add
      by_cases h0 : j = 0
      · subst h0; rfl
      · rw [if_neg h0]; simp
    rw [this, hnews j hj]
    simp [hj] at hu
    rw [hu]
  · intro u hu
    obtain ⟨j, hj, rfl⟩ := List.mem_map.1 hu
    exact h1 j (by simpa using hj)
  · intro v' w' h2 h3 _
    refine h v' w' ?_ h3
    unfold Row
    rw [Nat.add_mul, Nat.one_mul, cellsTo_add]
    exact h2
/-- append of a whole slice that came in to an empty one -/
theorem wpList_append_all {P : Program} {ops : Array Oper} {rest : List Oper} {o : Oper} {a : Act} {Q : Exit → Act → World → Prop} (hgd : o.guard = none) (s x : Operand) (t : TypeId)
    (ho : o.op = .call { callee := .builtin .append, args := #[s, x], argTypes := #[t, t] })
    (base : Nat) (e : TypeId) (i : TypeInfo) (z : Value) (size bytes : Nat) (ht : P.underlying t = some (.slice e)) (hi : P.info? e = some i) (hz : i.zero = some z)
    (hsize : i.size = size) (hby : i.bytes = bytes) (hzs : z.cells.size = size) (hsz : 0 < size)
    (v : Value) (f : Nat → Value) (hs : a.eval s = v) (hown : Row w base e size v 0 f)
    (b off m c : Nat) (hx : a.eval x = .slice (some ⟨b, off, none⟩) m c) (hnews : ∀ j, j < m * size → w.cell? ⟨b, off + j, none⟩ = some (f j)) (h1 : ∀ j, j < m * size → (f j).oneCell' = true)
    (hbytes : m * bytes ≤ 140737488355328) (hn : m ≤ 4611686018427387904) (hbase : base ≤ w.heap.size)
    (h : ∀ v' w', Row w' base e size v' m f → w.grownBy w' v.ownBlock → wpList P ops Q rest (a.put o.dst v') w') : wpList P ops Q (o :: rest) a w := by
  have hown' : w.ownsRow base e size v 0 (cellsTo (0 * size) f) := hown
  refine wpList_append_own w hgd s x t ho base e i z size bytes ht hi hz hsize hby hzs hsz v 0 _ hs hown' ⟨b, off, none⟩ m c (cellsTo (m * size) f) hx (cellsTo_len _ _) ?_ ?_ (by unfold maxLen; omega) (by rw [Nat.zero_add]; exact hbytes) hbase ?_
  · intro j u hu
    have hj : j < m * size := by
      have := (List.getElem?_eq_some_iff.1 hu).1
      rwa [cellsTo_len] at this
    have : (⟨b, off, none⟩ : Addr).add j = ⟨b, off + j, none⟩ := by
      unfold Addr.add
      by_cases h0 : j = 0
      · subst h0; rfl
      · rw [if_neg h0]
    rw [this, hnews j hj, ← hu, cellsTo_get hj]
  · intro u hu
    obtain ⟨j, hj, rfl⟩ := List.mem_map.1 hu
    exact h1 j (by simpa using hj)
  · intro v' w' h2 h3 _
    refine h v' w' ?_ h3
    unfold Row
    rw [Nat.zero_mul, Nat.zero_add] at h2
    simpa [cellsTo] using h2
end
end Go.Ks
