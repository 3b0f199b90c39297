/- append of one element inside a region that draws its order, onto a slice that the call itself made. General, no program. -/
import Derived.Test.YthjllledhcfnhaaGreatDoorAppend
import Derived.Deep.AppendLies
import Derived.Deep.RegionLaw
namespace Go.Ks
open Go.RowKit Go.Lib
section
variable {P : Program} {w : World} {base : Nat} {e : TypeId} {size : Nat} {v : Value} {n : Nat} {f : Nat → Value}
theorem step_append_row {ops : Array Oper} {o : Oper} {a : Act} {K : Act → World → Prop} {Q : Exit → Act → World → Prop} {E : Prop} (hgd : o.guard = none) (s x : Operand) (t : TypeId)
    (ho : o.op = .call { callee := .builtin .append, args := #[s, x], argTypes := #[t, t] })
    (base : Nat) (e : TypeId) (i : TypeInfo) (z : Value) (size bytes : Nat) (ht : P.underlying t = some (.slice e)) (hi : P.info? e = some i) (hz : i.zero = some z)
    (hsize : i.size = size) (hby : i.bytes = bytes) (hzs : z.cells.size = size) (hsz : 0 < size)
    (v : Value) (n : Nat) (f : Nat → Value) (hs : a.eval s = v) (hown : Row w base e size v n f)
    (g c : Nat) (hx : a.eval x = .slice (some ⟨g, 0, none⟩) 1 c) (hnews : ∀ j, j < size → w.cell? ⟨g, j, none⟩ = some (f (n * size + j))) (h1 : ∀ j, j < size → (f (n * size + j)).oneCell' = true)
    (hbytes : (n + 1) * bytes ≤ 140737488355328) (hn : n ≤ 4611686018427387904) (hbase : base ≤ w.heap.size)
    (h : ∀ v' w', Row w' base e size v' (n + 1) f → w.grownBy w' v.ownBlock → K (a.put o.dst v') w') :
    if Region.wanted o (yielded ops a.tmps) = true then Oper.wp P o a w K Q else E := by
  refine step_append_lies w hgd s x t ho base e i z size bytes ht hi hz hsize hby hzs hsz v n _ hs hown ⟨g, 0, none⟩ 1 c ((List.range size).map (fun j => f (n * size + j))) hx (by simp) ?_ ?_ (by omega) (by unfold maxLen; omega) hbytes hbase _ rfl ?_
  · intro j u hu
    have hj : j < size := by
      have := (List.getElem?_eq_some_iff.1 hu).1
      simpa using this
    have : (⟨g, 0, none⟩ : Addr).add j = ⟨g, j, none⟩ := by
      unfold Addr.add
      by_cases h0 : j = 0
      · subst h0; rfl
      · rw [if_neg h0]; simp
    rw [this, hnews j hj]
    simp [hj] at hu
    rw [hu]
  · intro u hu
    obtain ⟨j, hj, rfl⟩ := List.mem_map.1 hu
    exact h1 j (by simpa using hj)
  · intro g' cap w' h2 h3 _ _
    refine h _ w' ?_ h3
    unfold Row
    rw [Nat.add_mul, Nat.one_mul, cellsTo_add]
    exact h2
theorem Row.apart {w : World} {base : Nat} {v : Value} {n : Nat} {e : TypeId} {size : Nat} {f : Nat → Value} (h : Row w base e size v n f) {t : TypeId} {b : Nat} {cs : Array Value} (hb : Blk w b t cs) (ht : e ≠ t) : v.ownBlock ≠ some b := fun he => by
  obtain ⟨A, c, rfl, _, hown, hz⟩ := h.own
  rcases h.2 with ⟨hv, _⟩ | ⟨gb, cap, cur, hv, hbb, hh, r⟩
  · rw [hv] at he; cases he
  · rw [hv] at he
    have : gb = b := by simpa [Value.ownBlock] using he
    subst this
    unfold Blk at hb
    rw [hh] at hb
    cases hb
    exact ht rfl
theorem blk_grown {w w' : World} {b : Nat} {t : TypeId} {cs : Array Value} {row : Option Nat} (h : Blk w b t cs) (hg : w.grownBy w' row) (hne : row ≠ some b) : Blk w' b t cs := (hg.block b h.lt (fun e => hne e.symm)).trans h
/-- a block of another element type stays as it was at an append -/
theorem Blk.row {w w' : World} {base : Nat} {v : Value} {n : Nat} {e : TypeId} {size : Nat} {f : Nat → Value} {t : TypeId} {b : Nat} {cs : Array Value} (hb : Blk w b t cs) (h : Row w base e size v n f) (hg : w.grownBy w' v.ownBlock) (ht : e ≠ t) : Blk w' b t cs := blk_grown hb hg (Row.apart h hb ht)
/-- a slice of the call's own stays at a store into an older block -/
theorem Own.set {w : World} {base : Nat} {e : TypeId} {size : Nat} {A : Option Addr} {n : Nat} {f : Nat → Value} (h : Own w base e size A n f) {b : Nat} {t : TypeId} {cs : Array Value} (hb : Blk w b t cs) (ht : t ≠ e) (i : Nat) (u : Value) : Own (w.setCell ⟨b, i, none⟩ u) base e size A n f := by
  rcases h with h | ⟨B, m, g, hA, hB, hk, r⟩
  · exact .inl h
  · refine .inr ⟨B, m, g, hA, hB, hk.far (fun he => ?_) u, r⟩
    simp only at he
    subst he
    unfold Blk at hb hk
    rw [hk] at hb
    cases hb
    exact ht rfl
/-- .. and the row stays at a store into such a block -/
theorem Row.set {w : World} {base : Nat} {v : Value} {n : Nat} {e : TypeId} {size : Nat} {f : Nat → Value} (h : Row w base e size v n f) {t : TypeId} {b : Nat} {cs : Array Value} (hb : Blk w b t cs) (ht : e ≠ t) (i : Nat) (u : Value) : Row (w.setCell ⟨b, i, none⟩ u) base e size v n f := by
  refine ⟨h.1, ?_⟩
  rcases h.2 with h2 | ⟨g, cap, cur, hv, hg, hh, r⟩
  · exact .inl h2
  · refine .inr ⟨g, cap, cur, hv, hg, (Below.heap_setCell w ⟨b, i, none⟩ u g (fun he => ?_)).trans hh, r⟩
    simp only at he
    subst he
    unfold Blk at hb
    rw [hh] at hb
    cases hb
    exact ht rfl
end
end Go.Ks
