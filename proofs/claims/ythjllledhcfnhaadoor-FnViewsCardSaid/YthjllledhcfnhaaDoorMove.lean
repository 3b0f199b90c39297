/- A point of a mesh is moved. Conditions: the slice reads as spots. -/
import Derived.Test.YthjllledhcfnhaaDoorMirror
import Derived.Deep.AppendLies
namespace Go.Proofs.YthjllledhcfnhaaDoor
open Go.RowKit Go.Lib Go.Ks

def MoveOk (C R x y px py : Int) : Prop := inB x 0 (C - 1) = true ∧ inB y 0 (R - 1) = true ∧ plane px py = true
def movL (k : Nat) (px py : Int) (l : Nat → SpotD) : Nat → SpotD := fun q => if q = k then ⟨px, py⟩ else l q
open Classical in
noncomputable def mMoveMeshPointA (C R : Int) (n : Nat) (l : Nat → SpotD) (x y px py : Int) : Int := if MeshOk C R n l ∧ MoveOk C R x y px py then C else 0
open Classical in
noncomputable def mMoveMeshPointB (C R : Int) (n : Nat) (l : Nat → SpotD) (x y px py : Int) : Int := if MeshOk C R n l ∧ MoveOk C R x y px py then R else 0
open Classical in
noncomputable def mMoveMeshPointN (C R : Int) (n : Nat) (l : Nat → SpotD) (x y px py : Int) : Nat := if MeshOk C R n l ∧ MoveOk C R x y px py then n else 0
def mMoveMeshPointL (C _R : Int) (_n : Nat) (l : Nat → SpotD) (x y px py : Int) : Nat → SpotD := movL (y * C + x).toNat px py l
open Classical in
noncomputable def mMoveMeshPointC (C R : Int) (n : Nat) (l : Nat → SpotD) (x y px py : Int) : Int := if MeshOk C R n l then (if MoveOk C R x y px py then 0 else 2) else 1
section
variable {C R x y px py : Int} {n : Nat} {l : Nat → SpotD}
theorem mMove_no (h : ¬ MeshOk C R n l) : mMoveMeshPointA C R n l x y px py = 0 ∧ mMoveMeshPointB C R n l x y px py = 0 ∧ mMoveMeshPointN C R n l x y px py = 0 ∧ mMoveMeshPointC C R n l x y px py = 1 := ⟨if_neg (fun hh => h hh.1), if_neg (fun hh => h hh.1), if_neg (fun hh => h hh.1), if_neg h⟩
theorem mMove_out (h : MeshOk C R n l) (h' : ¬ MoveOk C R x y px py) : mMoveMeshPointA C R n l x y px py = 0 ∧ mMoveMeshPointB C R n l x y px py = 0 ∧ mMoveMeshPointN C R n l x y px py = 0 ∧ mMoveMeshPointC C R n l x y px py = 2 := by
  refine ⟨if_neg (fun hh => h' hh.2), if_neg (fun hh => h' hh.2), if_neg (fun hh => h' hh.2), ?_⟩
  unfold mMoveMeshPointC
  rw [if_pos h, if_neg h']
theorem mMove_ok (h : MeshOk C R n l) (h' : MoveOk C R x y px py) : mMoveMeshPointA C R n l x y px py = C ∧ mMoveMeshPointB C R n l x y px py = R ∧ mMoveMeshPointN C R n l x y px py = n ∧ mMoveMeshPointC C R n l x y px py = 0 := by
  refine ⟨if_pos ⟨h, h'⟩, if_pos ⟨h, h'⟩, if_pos ⟨h, h'⟩, ?_⟩
  unfold mMoveMeshPointC
  rw [if_pos h, if_pos h']
theorem mMoveMeshPoint_len (C R : Int) (n : Nat) (l : Nat → SpotD) (x y px py : Int) : mMoveMeshPointN C R n l x y px py ≤ 1048576 := by
  unfold mMoveMeshPointN
  split
  · rename_i h
    have := mesh_len h.1
    omega
  · omega
end

section
variable {P : Program} {w : World} {t t' : TypeId} {a b : Array Value}
theorem pair_0 : Blk ((w.alloc (.cells a t)).alloc (.cells b t')).drew w.heap.size t a := (Blk.new w t a).alloc _
theorem pair_1 : Blk ((w.alloc (.cells a t)).alloc (.cells b t')).drew (w.heap.size + 1) t' b := by
  have h := Blk.new (w.alloc (.cells a t)) t' b
  simp only [World.size_alloc] at h
  exact h
theorem one_0 : Blk (w.alloc (.cells a t)).drew w.heap.size t a := Blk.new w t a
theorem Row.of_blk {w : World} {base E : Nat} {e : TypeId} {size : Nat} {f : Nat → Value} (h : Blk w E e #[]) (hb : base ≤ E) : Row w base e size (.slice (some ⟨E, 0, none⟩) 0 0) 0 f := by
  refine ⟨by rw [cellsTo_len], .inr ⟨E, 0, #[], rfl, hb, h, Nat.le_refl _, Nat.zero_le _, by simp, ?_⟩⟩
  simp [cellsTo]
/-- append of a whole slice that came in to an empty one, inside a region that draws its order -/
theorem step_append_all {ops : Array Oper} {o : Oper} {a : Act} {K : Act → World → Prop} {Q : Exit → Act → World → Prop} {E : Prop} (hgd : o.guard = none) (s x : Operand) (t : TypeId)
    (ho : o.op = .call { callee := .builtin .append, args := #[s, x], argTypes := #[t, t] })
    (base : Nat) (e : TypeId) (i : TypeInfo) (z : Value) (size bytes : Nat) (ht : P.underlying t = some (.slice e)) (hi : P.info? e = some i) (hz : i.zero = some z)
    (hsize : i.size = size) (hby : i.bytes = bytes) (hzs : z.cells.size = size) (hsz : 0 < size)
    (v : Value) (f : Nat → Value) (hs : a.eval s = v) (hown : Row w base e size v 0 f)
    (b off m c : Nat) (hx : a.eval x = .slice (some ⟨b, off, none⟩) m c) (hnews : ∀ j, j < m * size → w.cell? ⟨b, off + j, none⟩ = some (f j)) (h1 : ∀ j, j < m * size → (f j).oneCell' = true) (hm : 0 < m)
    (hbytes : m * bytes ≤ 140737488355328) (hn : m ≤ 4611686018427387904) (hbase : base ≤ w.heap.size)
    (h : ∀ v' w', Row w' base e size v' m f → w.grownBy w' v.ownBlock → K (a.put o.dst v') w') :
    if Region.wanted o (yielded ops a.tmps) = true then Oper.wp P o a w K Q else E := by
  have hown' : w.ownsRow base e size v 0 (cellsTo (0 * size) f) := hown
  refine step_append_lies w hgd s x t ho base e i z size bytes ht hi hz hsize hby hzs hsz v 0 _ hs hown' ⟨b, off, none⟩ m c (cellsTo (m * size) f) hx (cellsTo_len _ _) ?_ ?_ hm (by unfold maxLen; omega) (by rw [Nat.zero_add]; exact hbytes) hbase _ rfl ?_
  · intro j u hu
    have hj : j < m * size := by
      have := (List.getElem?_eq_some_iff.1 hu).1
      rwa [cellsTo_len] at this
    have : (⟨b, off, none⟩ : Addr).add j = ⟨b, off + j, none⟩ := by
      unfold Addr.add
      by_cases h0 : j = 0
      · subst h0; rfl
      · rw [if_neg h0]
    rw [this, hnews j hj, ← hu, cellsTo_get hj]
  · intro u hu
    obtain ⟨j, hj, rfl⟩ := List.mem_map.1 hu
    exact h1 j (by simpa using hj)
  · intro g' cap w' h2 h3 _ _
    refine h _ w' ?_ h3
    unfold Row
    rw [Nat.zero_mul, Nat.zero_add] at h2
    simpa [cellsTo] using h2
/-- the same, told as the walk needs it: the result is of the call's own, what was stays, blocks of other elements are kept -/
theorem step_append_fresh {ops : Array Oper} {o : Oper} {a : Act} {K : Act → World → Prop} {Q : Exit → Act → World → Prop} {E' : Prop} (hgd : o.guard = none) (s x : Operand) (t : TypeId)
    (ho : o.op = .call { callee := .builtin .append, args := #[s, x], argTypes := #[t, t] })
    (base : Nat) (e : TypeId) (i : TypeInfo) (z : Value) (size bytes : Nat) (ht : P.underlying t = some (.slice e)) (hi : P.info? e = some i) (hz : i.zero = some z)
    (hsize : i.size = size) (hby : i.bytes = bytes) (hzs : z.cells.size = size) (hsz : 0 < size)
    (f : Nat → Value) (E : Nat) (hs : a.eval s = .slice (some ⟨E, 0, none⟩) 0 0) (hE : Blk w E e #[]) (hbE : base ≤ E)
    (b off m c : Nat) (hx : a.eval x = .slice (some ⟨b, off, none⟩) m c) (w0 : World) (hb0 : Below base w0 w) (hbase : base ≤ w0.heap.size)
    (hnews : ∀ w' : World, Below base w0 w' → ∀ j, j < m * size → w'.cell? ⟨b, off + j, none⟩ = some (f j)) (h1 : ∀ j, j < m * size → (f j).oneCell' = true) (hm : 0 < m)
    (hbytes : m * bytes ≤ 140737488355328) (hn : m ≤ 4611686018427387904)
    (h : ∀ A' c' w', Own w' base e size A' m f → (A' = none → c' = 0) → Below base w0 w' → (∀ t', t' ≠ e → ∀ B cs, Blk w B t' cs → Blk w' B t' cs) → K (a.put o.dst (.slice A' m c')) w') :
    if Region.wanted o (yielded ops a.tmps) = true then Oper.wp P o a w K Q else E' := by
  have hbw : base ≤ w.heap.size := Nat.le_trans hbase hb0.size
  refine step_append_all hgd s x t ho base e i z size bytes ht hi hz hsize hby hzs hsz _ f hs (Row.of_blk hE hbE) b off m c hx (hnews w hb0) h1 hm hbytes hn hbw ?_
  intro v' w' hr hg
  obtain ⟨A', c', rfl, _, ho', hz'⟩ := hr.own
  refine h A' c' w' ho' hz' (hb0.grown hg hbw (fun k hk => ?_)) (fun t' ht' B cs hB => blk_grown hB hg (fun he => ?_))
  · simp [Value.ownBlock] at hk
    omega
  · simp [Value.ownBlock] at he
    subst he
    unfold Blk at hB hE
    rw [hE] at hB
    injection hB with hB
    injection hB with _ hB _
    exact ht' hB.symm
end
set_option maxRecDepth 100000 in
set_option maxHeartbeats 4000000 in
theorem implMoveMeshPoint_any (C R : Int) (A : Option Addr) (n cp : Nat) (l : Nat → SpotD) (x y px py : Int) (w : World) (hn : n ≤ 1048576) (hs : Sl w A (n * 2) (SpotC l)) (_hg : ∀ k, k < n → SpotOk (l k)) (_hx : -9223372036854775808 ≤ x ∧ x ≤ 9223372036854775807) (_hy : -9223372036854775808 ≤ y ∧ y ≤ 9223372036854775807) (_hpx : -9223372036854775808 ≤ px ∧ px ≤ 9223372036854775807) (_hpy : -9223372036854775808 ≤ py ∧ py ≤ 9223372036854775807) :
    Calls Tryd.prog 49 #[.agg #[.int .i64 C, .int .i64 R, .slice A n cp], .int .i64 x, .int .i64 y, .agg #[.int .i64 px, .int .i64 py]] w fun e w' => RetM w w' (mMoveMeshPointA C R n l x y px py) (mMoveMeshPointB C R n l x y px py) (mMoveMeshPointN C R n l x y px py) (SpotC (mMoveMeshPointL C R n l x y px py)) (mMoveMeshPointC C R n l x y px py) e ∧ Below w.heap.size w w' := by
  go_enter Tryd.func49, Tryd.ntmps49
  go_wp2_with fail
  generalize hW : World.alloc (World.alloc (World.alloc w _) _) _ = w1
  have hb1 : Below w.heap.size w w1 := by rw [← hW]; repeat (first | with_reducible exact Below.refl _ _ | with_reducible assumption | with_reducible refine Below.setCell ?_ (by first | omega | (simp <;> omega)) _ | with_reducible refine Below.alloc ?_ (by first | omega | (simp <;> omega)) _ | with_reducible refine Below.drew ?_)
  have x0 : Blk w1 w.heap.size 69 #[.int .i64 C, .int .i64 R, .slice A n cp] := by rw [← hW]; exact ((Blk.new w _ _).alloc _).alloc _
  have xp : Blk w1 (w.heap.size + 1) 81 #[.int .i64 px, .int .i64 py] := by
    have h := (Blk.new (w.alloc (.cells #[.int .i64 C, .int .i64 R, .slice A n cp] 69)) 81 #[.int .i64 px, .int .i64 py]).alloc (.cells #[.int .i64 0, .int .i64 0, .slice none 0 0] 69)
    rw [hW] at h
    simpa using h
  have x1 : Blk w1 (w.heap.size + 1 + 1) 69 #[.int .i64 0, .int .i64 0, .slice none 0 0] := by
    have h := Blk.new ((w.alloc (.cells #[.int .i64 C, .int .i64 R, .slice A n cp] 69)).alloc (.cells #[.int .i64 px, .int .i64 py] 81)) 69 #[.int .i64 0, .int .i64 0, .slice none 0 0]
    rw [hW] at h
    simpa using h
  clear hW
  have a0 := x0.cell 0
  have a1 := x0.cell 1
  have a2 := x0.cell 2
  simp at a0 a1 a2
  have la := x0.lt
  refine (validMesh_any C R _ n cp l _ hn (hs.below hb1)).mono ?_
  rintro e w2 ⟨rfl, hb2⟩
  have hbw2 := hb1.trans (hb2.mono hb1.size)
  have y1 := x1.below hb2 x1.lt
  have yp := xp.below hb2 xp.lt
  have y0 := x0.below hb2 x0.lt
  clear a0 a1 a2
  have s2 := hbw2.size
  have z0 := y1.cell 0
  have z1 := y1.cell 1
  have z2 := y1.cell 2
  simp at z0 z1 z2
  have lz := y1.lt
  have gz0 := y1.frozen 0
  have gz1 := y1.frozen 1
  have gz2 := y1.frozen 2
  cases ok : meshOk C R n l
  · have E := Lib.hid (mMove_no (C := C) (R := R) (n := n) (l := l) (x := x) (y := y) (px := px) (py := py) (fun h => by rw [meshOk_yes h] at ok; cases ok))
    go_wp2_with fail
    refine bodyPost_ret (v := .tuple #[.agg #[.int .i64 0, .int .i64 0, .slice none 0 0], .int .i64 1]) (by simp [results, Tryd.results49, go_sem, z0, z1, z2]) rfl ⟨retM E.out.1.symm E.out.2.1.symm E.out.2.2.1.symm E.out.2.2.2.symm (Own.nil _ _ _ _ _) (fun _ => rfl), ?_⟩
    repeat (first | with_reducible exact Below.refl _ _ | with_reducible assumption | with_reducible refine Below.setCell ?_ (by first | omega | (simp <;> omega)) _ | with_reducible refine Below.alloc ?_ (by first | omega | (simp <;> omega)) _ | with_reducible refine Below.drew ?_)
  have OK := meshOk_of ok
  have OKH := Lib.hid OK
  clear ok
  obtain ⟨⟨hC1, hC2⟩, ⟨hR1, hR2⟩, hnC, hpl⟩ := OK
  have b0 := y0.cell 0
  have b1 := y0.cell 1
  have b2 := y0.cell 2
  have bp0 := yp.cell 0
  have bp1 := yp.cell 1
  simp at b0 b1 b2 bp0 bp1
  have lb := y0.lt
  have lp := yp.lt
  have HNC := Lib.hid hnC
  have HPL := Lib.hid hpl
  clear hnC hpl
  cases i1 : inB x 0 (C - 1)
  · have E := Lib.hid (mMove_out OKH.out (x := x) (y := y) (px := px) (py := py) (fun h => by rw [h.1] at i1; cases i1))
    go_wp2_with fail
    refine (within_eq _ _ _ _).mono ?_
    rintro e w3 ⟨rfl, rfl⟩
    go_wp2_with fail
    refine bodyPost_ret (v := .tuple #[.agg #[.int .i64 0, .int .i64 0, .slice none 0 0], .int .i64 2]) (by simp [results, Tryd.results49, go_sem, z0, z1, z2]) rfl ⟨retM E.out.1.symm E.out.2.1.symm E.out.2.2.1.symm E.out.2.2.2.symm (Own.nil _ _ _ _ _) (fun _ => rfl), ?_⟩
    repeat (first | with_reducible exact Below.refl _ _ | with_reducible assumption | with_reducible refine Below.setCell ?_ (by first | omega | (simp <;> omega)) _ | with_reducible refine Below.alloc ?_ (by first | omega | (simp <;> omega)) _ | with_reducible refine Below.drew ?_)
  cases i2 : inB y 0 (R - 1)
  · have E := Lib.hid (mMove_out OKH.out (x := x) (y := y) (px := px) (py := py) (fun h => by rw [h.2.1] at i2; cases i2))
    go_wp2_with fail
    refine (within_eq _ _ _ _).mono ?_
    rintro e w3 ⟨rfl, rfl⟩
    go_wp2_with fail
    refine (within_eq _ _ _ _).mono ?_
    rintro e w3 ⟨rfl, rfl⟩
    go_wp2_with fail
    refine bodyPost_ret (v := .tuple #[.agg #[.int .i64 0, .int .i64 0, .slice none 0 0], .int .i64 2]) (by simp [results, Tryd.results49, go_sem, z0, z1, z2]) rfl ⟨retM E.out.1.symm E.out.2.1.symm E.out.2.2.1.symm E.out.2.2.2.symm (Own.nil _ _ _ _ _) (fun _ => rfl), ?_⟩
    repeat (first | with_reducible exact Below.refl _ _ | with_reducible assumption | with_reducible refine Below.setCell ?_ (by first | omega | (simp <;> omega)) _ | with_reducible refine Below.alloc ?_ (by first | omega | (simp <;> omega)) _ | with_reducible refine Below.drew ?_)
  have rx := inB_iff.1 i1
  have ry := inB_iff.1 i2
  obtain ⟨rx1, rx2⟩ := rx
  obtain ⟨ry1, ry2⟩ := ry
  go_wp2_with fail
  refine (within_eq _ _ _ _).mono ?_
  rintro e w3 ⟨rfl, rfl⟩
  go_wp2_with fail
  refine (within_eq _ _ _ _).mono ?_
  rintro e w3 ⟨rfl, rfl⟩
  go_wp2_with fail
  refine (inPlane_any _ _ _).mono ?_
  rintro e w3 ⟨rfl, hb3⟩
  have hbw3 := hbw2.trans (hb3.mono hbw2.size)
  have s3 := hb3.size
  have x1 := y1.below hb3 y1.lt
  have xp := yp.below hb3 yp.lt
  have x0 := y0.below hb3 y0.lt
  clear y1 yp y0 b0 b1 b2 bp0 bp1 lb lp z0 z1 z2 lz gz0 gz1 gz2
  have z0 := x1.cell 0
  have z1 := x1.cell 1
  have z2 := x1.cell 2
  have b0 := x0.cell 0
  have b1 := x0.cell 1
  have b2 := x0.cell 2
  have bp0 := xp.cell 0
  have bp1 := xp.cell 1
  simp at z0 z1 z2 b0 b1 b2 bp0 bp1
  have lz := x1.lt
  have lb := x0.lt
  have lp := xp.lt
  cases i3 : plane px py
  · have E := Lib.hid (mMove_out OKH.out (x := x) (y := y) (px := px) (py := py) (fun h => by rw [h.2.2] at i3; cases i3))
    have gz0 := x1.frozen 0
    have gz1 := x1.frozen 1
    have gz2 := x1.frozen 2
    go_wp2_with fail
    refine bodyPost_ret (v := .tuple #[.agg #[.int .i64 0, .int .i64 0, .slice none 0 0], .int .i64 2]) (by simp [results, Tryd.results49, go_sem, z0, z1, z2]) rfl ⟨retM E.out.1.symm E.out.2.1.symm E.out.2.2.1.symm E.out.2.2.2.symm (Own.nil _ _ _ _ _) (fun _ => rfl), ?_⟩
    repeat (first | with_reducible exact Below.refl _ _ | with_reducible assumption | with_reducible refine Below.setCell ?_ (by first | omega | (simp <;> omega)) _ | with_reducible refine Below.alloc ?_ (by first | omega | (simp <;> omega)) _ | with_reducible refine Below.drew ?_)
  have E := Lib.hid (mMove_ok OKH.out (x := x) (y := y) (px := px) (py := py) ⟨i1, i2, i3⟩)
  clear i1 i2 i3 z0 z1 z2 lz
  obtain ⟨c, rfl⟩ := Int.eq_ofNat_of_zero_le (by omega : 0 ≤ C)
  obtain ⟨r, rfl⟩ := Int.eq_ofNat_of_zero_le (by omega : 0 ≤ R)
  obtain ⟨xi, rfl⟩ := Int.eq_ofNat_of_zero_le rx1
  obtain ⟨yi, rfl⟩ := Int.eq_ofNat_of_zero_le ry1
  have hnc : n = r * c := by
    have : ((n : Nat) : Int) = ((c * r : Nat) : Int) := by rw [HNC.out, Int.natCast_mul]
    rw [Nat.mul_comm]; omega
  have npos : 0 < n := by rw [hnc]; exact Nat.mul_pos (by omega) (by omega)
  have hjn : yi * c + c ≤ n := by
    rw [hnc]
    have : (yi + 1) * c ≤ r * c := Nat.mul_le_mul_right c (by omega)
    rw [Nat.add_mul, Nat.one_mul] at this
    exact this
  have hrm : yi * c ≤ 8 * 9 := Nat.mul_le_mul (by omega) (by omega)
  have hrm2 : (yi : Int) * (c : Int) = ((yi * c : Nat) : Int) := (Int.natCast_mul yi c).symm
  have hr1 : 0 ≤ (yi : Int) * (c : Int) := by rw [hrm2]; omega
  have hr2 : (yi : Int) * (c : Int) ≤ 72 := by rw [hrm2]; omega
  obtain ⟨k, hkk⟩ : ∃ k, k = yi * c + xi := ⟨_, rfl⟩
  have hk2 : (yi : Int) * (c : Int) + (xi : Int) = (k : Int) := by rw [hrm2]; omega
  have HK2 := Lib.hid hk2
  have hkn : k < n := by omega
  have hkn2 : (k : Int) < (n : Int) := by omega
  have hs3 := hs.below hbw3
  clear hrm2 hkk hnc
  go_wp2_with fail
  go_cut [10] (fun s wr => ∃ (Bo : Nat) (A' : Option Addr) (c' : Nat), s = .pointer (some ⟨Bo, 0, none⟩) ∧ Blk wr Bo 69 #[.int .i64 (c : Int), .int .i64 (r : Int), .slice A' n c'] ∧ Own wr w3.heap.size 81 2 A' n (SpotC l) ∧ (A' = none → c' = 0) ∧ w3.heap.size ≤ Bo ∧ Below w3.heap.size w3 wr)
  case first =>
    have ks : ∀ w' : World, Below w3.heap.size w3 w' → w'.cell? ⟨w.heap.size, 0, none⟩ = some (.int .i64 (c : Int)) ∧ w'.cell? ⟨w.heap.size, 1, none⟩ = some (.int .i64 (r : Int)) ∧ w'.cell? ⟨w.heap.size, 2, none⟩ = some (.slice A n cp) := fun w' h => ⟨(x0.below h x0.lt).cell 0, (x0.below h x0.lt).cell 1, (x0.below h x0.lt).cell 2⟩
    have KS := Lib.hid ks
    clear ks
    go_region_held3 (fun w' => w'.cell? ⟨w.heap.size, 0, none⟩ = some (.int .i64 (c : Int)) ∧ w'.cell? ⟨w.heap.size, 1, none⟩ = some (.int .i64 (r : Int)) ∧ w'.cell? ⟨w.heap.size, 2, none⟩ = some (.slice A n cp))
      (exact KS.out _ (by repeat (first | with_reducible exact Below.refl _ _ | with_reducible assumption | with_reducible refine Below.setCell ?_ (by first | omega | (simp <;> omega)) _ | with_reducible refine Below.alloc ?_ (by first | omega | (simp <;> omega)) _ | with_reducible refine Below.drew ?_)))
      (first
        | (go_at_call 101; refine (cloneSpot_any A n cp l _ hn npos (hs3.below (by repeat (first | with_reducible exact Below.refl _ _ | with_reducible assumption | with_reducible refine Below.setCell ?_ (by first | omega | (simp <;> omega)) _ | with_reducible refine Below.alloc ?_ (by first | omega | (simp <;> omega)) _ | with_reducible refine Below.drew ?_)))).mono ?_; rintro e vX ⟨⟨A', c', rfl, ox, hz⟩, FX⟩; have TX : Below w3.heap.size w3 vX := below_then (by repeat (first | with_reducible exact Below.refl _ _ | with_reducible assumption | with_reducible refine Below.setCell ?_ (by first | omega | (simp <;> omega)) _ | with_reducible refine Below.alloc ?_ (by first | omega | (simp <;> omega)) _ | with_reducible refine Below.drew ?_)) FX; have sX := TX.size; have oy := ox.mono (base' := w3.heap.size) (by simp); (first | ((first | (with_reducible have zx := made_step FX) | (with_reducible have zx := made_step' FX)); have zf0 := zx.cell 0; have zf1 := zx.cell 1; have zf2 := zx.cell 2; have zg0 := zx.frozen 0; have zg1 := zx.frozen 1; have zg2 := zx.frozen 2; have zl := zx.lt) | skip)))
    all_goals (try go_wp2_with fail)
    all_goals go_meet
    · exact ⟨_, A', c', rfl, Blk.new _ _ _, oy.below (by repeat (first | with_reducible exact Below.refl _ _ | with_reducible assumption | with_reducible refine Below.setCell ?_ (by first | omega | (simp <;> omega)) _ | with_reducible refine Below.alloc ?_ (by first | omega | (simp <;> omega)) _ | with_reducible refine Below.drew ?_)), hz, by omega, by repeat (first | with_reducible exact Below.refl _ _ | with_reducible assumption | with_reducible refine Below.setCell ?_ (by first | omega | (simp <;> omega)) _ | with_reducible refine Below.alloc ?_ (by first | omega | (simp <;> omega)) _ | with_reducible refine Below.drew ?_)⟩
    · exact ⟨_, A', c', rfl, ((zx.set_ 0 _).set_ 1 _).set_ 2 _, ((oy.set zx (by decide) 0 _).set (zx.set_ 0 _) (by decide) 1 _).set ((zx.set_ 0 _).set_ 1 _) (by decide) 2 _, hz, Nat.le_refl _, by repeat (first | with_reducible exact Below.refl _ _ | with_reducible assumption | with_reducible refine Below.setCell ?_ (by first | omega | (simp <;> omega)) _ | with_reducible refine Below.alloc ?_ (by first | omega | (simp <;> omega)) _ | with_reducible refine Below.drew ?_)⟩
  obtain ⟨Bo, A', c', rfl, o0, own0, hz, hBo, hb4⟩ := hcut
  obtain ⟨w4, rfl⟩ : ∃ q : World, q = wc := ⟨_, rfl⟩
  obtain ⟨Bs, ms, h0, rfl, hBs, ho0, hms, hh0⟩ := Own.some_blk own0 npos
  have hne : Bo ≠ Bs := fun e => by
    subst e
    unfold Blk at o0 ho0
    rw [o0] at ho0
    injection ho0 with ho0
    injection ho0 with _ ho0 _
    exact absurd ho0 (by decide)
  have HH0 := Lib.hid hh0
  clear b0 b1 b2 lb bp0 bp1 lp hz own0 hh0
  have s4 := hb4.size
  have q0 := x0.below hb4 x0.lt
  have qp := xp.below hb4 xp.lt
  have q1 := x1.below hb4 x1.lt
  have b0 := q0.cell 0
  have bp0 := qp.cell 0
  have bp1 := qp.cell 1
  have z0 := q1.cell 0
  have z1 := q1.cell 1
  have z2 := q1.cell 2
  have f0 := o0.cell 0
  have f1 := o0.cell 1
  have f2 := o0.cell 2
  simp at b0 bp0 bp1 z0 z1 z2 f0 f1 f2
  have lb := q0.lt
  have lp := qp.lt
  have lz := q1.lt
  have lo := o0.lt
  have lbs := ho0.lt
  have c0 : w4.cell? ⟨Bs, k * 2, none⟩ = some (h0 (k * 2)) := by rw [ho0.cell, arr_get _ _ _ (by omega)]
  have c1 : w4.cell? ⟨Bs, k * 2 + 1, none⟩ = some (h0 (k * 2 + 1)) := by rw [ho0.cell, arr_get _ _ _ (by omega)]
  have g0 := ho0.frozen (k * 2)
  have g1 := ho0.frozen (k * 2 + 1)
  have gz0 := q1.frozen 0
  have gz1 := q1.frozen 1
  have gz2 := q1.frozen 2
  have lx1 := x1.lt
  have hw1 : w.heap.size + 1 + 1 ≠ Bs := by omega
  have hw2 : w.heap.size + 1 + 1 ≠ Bo := by omega
  obtain ⟨h', hp1, hp2⟩ := spot_put (k := k) (L := l) (L' := movL k px py l) (x := px) (y := py) ho0 HH0.out (fun q hq => if_neg hq) (if_pos rfl)
  have HP2 := Lib.hid hp2
  clear hp2
  have q1' := (q1.far (p := ⟨Bs, k * 2, none⟩) hw1 (.int .i64 px)).far (p := ⟨Bs, k * 2 + 1, none⟩) hw1 (.int .i64 py)
  have hb5 := (hb4.setCell (p := ⟨Bs, k * 2, none⟩) hBs (.int .i64 px)).setCell (p := ⟨Bs, k * 2 + 1, none⟩) hBs (.int .i64 py)
  have hbw5 := hbw3.trans (hb5.mono hbw3.size)
  have hown : Own _ w.heap.size 81 2 (some ⟨Bs, 0, none⟩) n (SpotC (movL k px py l)) := Own.blk hp1 (by omega : w.heap.size ≤ Bs) hms HP2.out
  go_wp2_with fail
  refine bodyPost_ret (v := .tuple #[.agg #[.int .i64 (c : Int), .int .i64 (r : Int), .slice (some ⟨Bs, 0, none⟩) n c'], .int .i64 0]) (by simp [results, Tryd.results49, go_sem, z0, z1, z2]) rfl ⟨retM E.out.1.symm E.out.2.1.symm E.out.2.2.1.symm E.out.2.2.2.symm ?_ (fun h => by cases h), ?_⟩
  · unfold mMoveMeshPointL
    rw [HK2.out, Int.toNat_natCast]
    exact ((hown.set q1' (by decide) 0 _).set (q1'.set_ 0 _) (by decide) 1 _).set ((q1'.set_ 0 _).set_ 1 _) (by decide) 2 _
  · repeat (first | with_reducible exact Below.refl _ _ | with_reducible assumption | with_reducible refine Below.setCell ?_ (by first | omega | (simp <;> omega)) _ | with_reducible refine Below.alloc ?_ (by first | omega | (simp <;> omega)) _ | with_reducible refine Below.drew ?_)
end Go.Proofs.YthjllledhcfnhaaDoor
