/- A point of a mesh is moved. Conditions: the slice reads as spots. -/
import Derived.Test.YthjllledhcfnhaaGreatDoorMirror
import Derived.Deep.AppendLies
namespace Go.Proofs.YthjllledhcfnhaaGreatDoor
open Go.RowKit Go.Lib Go.Ks

def MoveOk (C R x y px py : Int) : Prop := inB x 0 (C - 1) = true ∧ inB y 0 (R - 1) = true ∧ plane px py = true
def movL (k : Nat) (px py : Int) (l : Nat → SpotD) : Nat → SpotD := fun q => if q = k then ⟨px, py⟩ else l q
open Classical in
noncomputable def mMoveMeshPointA (C R : Int) (n : Nat) (l : Nat → SpotD) (x y px py : Int) : Int := if MeshOk C R n l ∧ MoveOk C R x y px py then C else 0
open Classical in
noncomputable def mMoveMeshPointB (C R : Int) (n : Nat) (l : Nat → SpotD) (x y px py : Int) : Int := if MeshOk C R n l ∧ MoveOk C R x y px py then R else 0
open Classical in
noncomputable def mMoveMeshPointN (C R : Int) (n : Nat) (l : Nat → SpotD) (x y px py : Int) : Nat := if MeshOk C R n l ∧ MoveOk C R x y px py then n else 0
def mMoveMeshPointL (C _R : Int) (_n : Nat) (l : Nat → SpotD) (x y px py : Int) : Nat → SpotD := movL (y * C + x).toNat px py l
open Classical in
noncomputable def mMoveMeshPointC (C R : Int) (n : Nat) (l : Nat → SpotD) (x y px py : Int) : Int := if MeshOk C R n l then (if MoveOk C R x y px py then 0 else 2) else 1
section
variable {C R x y px py : Int} {n : Nat} {l : Nat → SpotD}
theorem mMove_no (h : ¬ MeshOk C R n l) : mMoveMeshPointA C R n l x y px py = 0 ∧ mMoveMeshPointB C R n l x y px py = 0 ∧ mMoveMeshPointN C R n l x y px py = 0 ∧ mMoveMeshPointC C R n l x y px py = 1 := ⟨if_neg (fun hh => h hh.1), if_neg (fun hh => h hh.1), if_neg (fun hh => h hh.1), if_neg h⟩
theorem mMove_out (h : MeshOk C R n l) (h' : ¬ MoveOk C R x y px py) : mMoveMeshPointA C R n l x y px py = 0 ∧ mMoveMeshPointB C R n l x y px py = 0 ∧ mMoveMeshPointN C R n l x y px py = 0 ∧ mMoveMeshPointC C R n l x y px py = 2 := by
  refine ⟨if_neg (fun hh => h' hh.2), if_neg (fun hh => h' hh.2), if_neg (fun hh => h' hh.2), ?_⟩
  unfold mMoveMeshPointC
  rw [if_pos h, if_neg h']
theorem mMove_ok (h : MeshOk C R n l) (h' : MoveOk C R x y px py) : mMoveMeshPointA C R n l x y px py = C ∧ mMoveMeshPointB C R n l x y px py = R ∧ mMoveMeshPointN C R n l x y px py = n ∧ mMoveMeshPointC C R n l x y px py = 0 := by
  refine ⟨if_pos ⟨h, h'⟩, if_pos ⟨h, h'⟩, if_pos ⟨h, h'⟩, ?_⟩
  unfold mMoveMeshPointC
  rw [if_pos h, if_pos h']
theorem mMoveMeshPoint_len (C R : Int) (n : Nat) (l : Nat → SpotD) (x y px py : Int) : mMoveMeshPointN C R n l x y px py ≤ 1048576 := by
  unfold mMoveMeshPointN
  split
  · rename_i h
    have := mesh_len h.1
    omega
  · omega
end

section
variable {P : Program} {w : World} {t t' : TypeId} {a b : Array Value}
theorem pair_0 : Blk ((w.alloc (.cells a t)).alloc (.cells b t')).drew w.heap.size t a := (Blk.new w t a).alloc _
theorem pair_1 : Blk ((w.alloc (.cells a t)).alloc (.cells b t')).drew (w.heap.size + 1) t' b := by
  have h := Blk.new (w.alloc (.cells a t)) t' b
  simp only [World.size_alloc] at h
  exact h
theorem one_0 : Blk (w.alloc (.cells a t)).drew w.heap.size t a := Blk.new w t a
theorem Row.of_blk {w : World} {base E : Nat} {e : TypeId} {size : Nat} {f : Nat → Value} (h : Blk w E e #[]) (hb : base ≤ E) : Row w base e size (.slice (some ⟨E, 0, none⟩) 0 0) 0 f := by
  refine ⟨by rw [cellsTo_len], .inr ⟨E, 0, #[], rfl, hb, h, Nat.le_refl _, Nat.zero_le _, by simp, ?_⟩⟩
  simp [cellsTo]
/-- append of a whole slice that came in to an empty one, inside a region that draws its order -/
theorem step_append_all {ops : Array Oper} {o : Oper} {a : Act} {K : Act → World → Prop} {Q : Exit → Act → World → Prop} {E : Prop} (hgd : o.guard = none) (s x : Operand) (t : TypeId)
    (ho : o.op = .call { callee := .builtin .append, args := #[s, x], argTypes := #[t, t] })
    (base : Nat) (e : TypeId) (i : TypeInfo) (z : Value) (size bytes : Nat) (ht : P.underlying t = some (.slice e)) (hi : P.info? e = some i) (hz : i.zero = some z)
    (hsize : i.size = size) (hby : i.bytes = bytes) (hzs : z.cells.size = size) (hsz : 0 < size)
    (v : Value) (f : Nat → Value) (hs : a.eval s = v) (hown : Row w base e size v 0 f)
    (b off m c : Nat) (hx : a.eval x = .slice (some ⟨b, off, none⟩) m c) (hnews : ∀ j, j < m * size → w.cell? ⟨b, off + j, none⟩ = some (f j)) (h1 : ∀ j, j < m * size → (f j).oneCell' = true) (hm : 0 < m)
    (hbytes : m * bytes ≤ 140737488355328) (hn : m ≤ 4611686018427387904) (hbase : base ≤ w.heap.size)
    (h : ∀ v' w', Row w' base e size v' m f → w.grownBy w' v.ownBlock → K (a.put o.dst v') w') :
    if Region.wanted o (yielded ops a.tmps) = true then Oper.wp P o a w K Q else E := by
  have hown' : w.ownsRow base e size v 0 (cellsTo (0 * size) f) := hown
  refine step_append_lies w hgd s x t ho base e i z size bytes ht hi hz hsize hby hzs hsz v 0 _ hs hown' ⟨b, off, none⟩ m c (cellsTo (m * size) f) hx (cellsTo_len _ _) ?_ ?_ hm (by unfold maxLen; omega) (by rw [Nat.zero_add]; exact hbytes) hbase _ rfl ?_
  · intro j u hu
    have hj : j < m * size := by
      have := (List.getElem?_eq_some_iff.1 hu).1
      rwa [cellsTo_len] at this
    have : (⟨b, off, none⟩ : Addr).add j = ⟨b, off + j, none⟩ := by
      unfold Addr.add
      by_cases h0 : j = 0
      · subst h0; rfl
      · rw [if_neg h0]
    rw [this, hnews j hj, ← hu, cellsTo_get hj]
  · intro u hu
    obtain ⟨j, hj, rfl⟩ := List.mem_map.1 hu
    exact h1 j (by simpa using hj)
  · intro g' cap w' h2 h3 _ _
    refine h _ w' ?_ h3
    unfold Row
    rw [Nat.zero_mul, Nat.zero_add] at h2
    simpa [cellsTo] using h2
/-- the same, told as the walk needs it: the result is of the call's own, what was stays, blocks of other elements are kept -/
theorem step_append_fresh {ops : Array Oper} {o : Oper} {a : Act} {K : Act → World → Prop} {Q : Exit → Act → World → Prop} {E' : Prop} (hgd : o.guard = none) (s x : Operand) (t : TypeId)
    (ho : o.op = .call { callee := .builtin .append, args := #[s, x], argTypes := #[t, t] })
    (base : Nat) (e : TypeId) (i : TypeInfo) (z : Value) (size bytes : Nat) (ht : P.underlying t = some (.slice e)) (hi : P.info? e = some i) (hz : i.zero = some z)
    (hsize : i.size = size) (hby : i.bytes = bytes) (hzs : z.cells.size = size) (hsz : 0 < size)
    (f : Nat → Value) (E : Nat) (hs : a.eval s = .slice (some ⟨E, 0, none⟩) 0 0) (hE : Blk w E e #[]) (hbE : base ≤ E)
    (b off m c : Nat) (hx : a.eval x = .slice (some ⟨b, off, none⟩) m c) (w0 : World) (hb0 : Below base w0 w) (hbase : base ≤ w0.heap.size)
    (hnews : ∀ w' : World, Below base w0 w' → ∀ j, j < m * size → w'.cell? ⟨b, off + j, none⟩ = some (f j)) (h1 : ∀ j, j < m * size → (f j).oneCell' = true) (hm : 0 < m)
    (hbytes : m * bytes ≤ 140737488355328) (hn : m ≤ 4611686018427387904)
    (h : ∀ A' c' w', Own w' base e size A' m f → (A' = none → c' = 0) → Below base w0 w' → (∀ t', t' ≠ e → ∀ B cs, Blk w B t' cs → Blk w' B t' cs) → K (a.put o.dst (.slice A' m c')) w') :
    if Region.wanted o (yielded ops a.tmps) = true then Oper.wp P o a w K Q else E' := by
  have hbw : base ≤ w.heap.size := Nat.le_trans hbase hb0.size
  refine step_append_all hgd s x t ho base e i z size bytes ht hi hz hsize hby hzs hsz _ f hs (Row.of_blk hE hbE) b off m c hx (hnews w hb0) h1 hm hbytes hn hbw ?_
  intro v' w' hr hg
  obtain ⟨A', c', rfl, _, ho', hz'⟩ := hr.own
  refine h A' c' w' ho' hz' (hb0.grown hg hbw (fun k hk => ?_)) (fun t' ht' B cs hB => blk_grown hB hg (fun he => ?_))
  · simp [Value.ownBlock] at hk
    omega
  · simp [Value.ownBlock] at he
    subst he
    unfold Blk at hB hE
    rw [hE] at hB
    injection hB with hB
    injection hB with _ hB _
    exact ht' hB.symm
end
end Go.Proofs.YthjllledhcfnhaaGreatDoor
