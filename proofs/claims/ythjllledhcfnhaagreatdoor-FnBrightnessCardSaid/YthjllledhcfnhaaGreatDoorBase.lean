import Derived.WalkKit
import Derived.WalkSpells
import Derived.BigQuiet
import Derived.Deep.QuietTactic
import Derived.Lib.Hide
namespace Go.Ks
open Go.RowKit Go.Lib

/-- the worlds in which nothing of w's has turned -/
def ExtW (w : World) : Type := {w' : World // Below w.heap.size w w'}
def ExtW.val {w : World} (e : ExtW w) : World := Subtype.val e
instance (w : World) : Nonempty (ExtW w) := ⟨⟨w, Below.refl _ _⟩⟩
theorem ExtW.below {w : World} (e : ExtW w) : Below w.heap.size w e.val := e.property
@[go_sem] theorem ExtW.cell {w : World} (e : ExtW w) (b o : Nat) (h : b < w.heap.size) : e.val.cell? ⟨b, o, none⟩ = w.cell? ⟨b, o, none⟩ := e.below.cell (p := ⟨b, o, none⟩) h
@[go_sem] theorem ExtW.frozen {w : World} (e : ExtW w) (b o : Nat) (h : b < w.heap.size) : e.val.frozen? ⟨b, o, none⟩ = w.frozen? ⟨b, o, none⟩ := e.below.frozen (p := ⟨b, o, none⟩) h

theorem bdrew (w : World) : Below w.heap.size w { w with drawn := w.drawn + 1 } := ⟨rfl, rfl, rfl, Nat.le_refl _, fun _ _ => rfl⟩

theorem wp_region_ext {P : Program} {id : Nat} {Q : Exit → Act → World → Prop} {a : Act} {w : World} {l : List Oper} (hm : P.follows .mixedOrders = true) (hB : Region.lexB .any l.toArray = true)
    (h : wpQuiet P l.toArray (fun w' => ∃ e : ExtW w, w' = e.val) (fun a' => ∀ e : ExtW w, Q .normal a' e.val) l a) : (Code.region id l.toArray true).wp P Q a w := by
  refine wp_region_quiet (C := fun w' => ∃ e : ExtW w, w' = e.val) hm hB ⟨⟨_, bdrew w⟩, rfl⟩ ?_
  have : (fun a' => ∀ e : ExtW w, Q .normal a' e.val) = (fun a' => ∀ w', (∃ e : ExtW w, w' = e.val) → Q .normal a' w') := by
    funext a'
    apply propext
    constructor
    · rintro h w' ⟨e, rfl⟩; exact h e
    · intro h e; exact h _ ⟨e, rfl⟩
  rw [this] at h
  simpa using h

/-- a callee's contract inside such a region -/
theorem quiet_ext {P : Program} {f : FuncId} {args : Array Value} {w : World} {e : ExtW w} {v : Value}
    (h : Calls P f args e.val fun r w' => r = .returned v ∧ Below e.val.heap.size e.val w') : Calls P f args e.val fun r w'' => r = .returned v ∧ ∃ e' : ExtW w, w'' = e'.val :=
  h.mono fun _ w' ⟨he, hm⟩ => ⟨he, ⟨w', e.below.trans (hm.mono e.below.size)⟩, rfl⟩
theorem bcell {W w1 : World} (hb : Below W.heap.size W w1) : (∀ b o, b < W.heap.size → w1.cell? ⟨b, o, none⟩ = W.cell? ⟨b, o, none⟩) ∧ (∀ b o, b < W.heap.size → w1.frozen? ⟨b, o, none⟩ = W.frozen? ⟨b, o, none⟩) :=
  ⟨fun b o h => hb.cell (p := ⟨b, o, none⟩) h, fun b o h => hb.frozen (p := ⟨b, o, none⟩) h⟩

/-- m cells are readable from the address on -/
def Sl (w : World) (A : Option Addr) (m : Nat) (cs : Nat → Value) : Prop :=
  0 < m → ∃ b off, A = some ⟨b, off, none⟩ ∧ b < w.heap.size ∧ ∀ j, j < m → w.cell? ⟨b, off + j, none⟩ = some (cs j)
theorem Sl.below {w w' : World} {A : Option Addr} {m : Nat} {cs : Nat → Value} (h : Sl w A m cs) (hb : Below w.heap.size w w') : Sl w' A m cs := fun hm => by
  obtain ⟨b, off, hA, hlt, hc⟩ := h hm
  exact ⟨b, off, hA, Nat.lt_of_lt_of_le hlt hb.size, fun j hj => (hb.cell (p := ⟨b, off + j, none⟩) hlt).trans (hc j hj)⟩
theorem Sl.congr {w : World} {A : Option Addr} {m : Nat} {cs ds : Nat → Value} (h : Sl w A m cs) (he : ∀ j, j < m → cs j = ds j) : Sl w A m ds := fun hm => by
  obtain ⟨b, off, hA, hlt, hc⟩ := h hm
  exact ⟨b, off, hA, hlt, fun j hj => (hc j hj).trans (by rw [he j hj])⟩

/-- block g is just these cells -/
def Blk (w : World) (g : Nat) (t : TypeId) (cs : Array Value) : Prop := w.heap[g]? = some (.cells cs t (0, 0))
section
variable {w w' : World} {g : Nat} {t : TypeId} {cs : Array Value}
theorem Blk.lt (h : Blk w g t cs) : g < w.heap.size := by
  rcases Nat.lt_or_ge g w.heap.size with hlt | hge
  · exact hlt
  · unfold Blk at h; rw [Array.getElem?_eq_none hge] at h; cases h
theorem Blk.cell (h : Blk w g t cs) (i : Nat) : w.cell? ⟨g, i, none⟩ = cs[i]? := cell_of_row w g i cs t (0, 0) h
theorem Blk.frozen (h : Blk w g t cs) (i : Nat) : w.frozen? ⟨g, i, none⟩ = false := by
  unfold Blk at h
  simp [World.frozen?, h]
theorem Blk.new (w : World) (t : TypeId) (cs : Array Value) : Blk (w.alloc (.cells cs t)) w.heap.size t cs := heap_alloc_new w _
theorem Blk.drew (h : Blk w g t cs) : Blk w.drew g t cs := h
theorem Blk.alloc (h : Blk w g t cs) (o : Obj) : Blk (w.alloc o) g t cs := (Below.heap_alloc w o g h.lt).trans h
theorem Blk.set_ (h : Blk w g t cs) (i : Nat) (u : Value) : Blk (w.setCell ⟨g, i, none⟩ u) g t (cs.setIfInBounds i u) := by
  unfold Blk at h ⊢
  simp [World.setCell, Array.getElem?_modify, h]
theorem Blk.far (h : Blk w g t cs) {p : Addr} (hp : g ≠ p.block) (u : Value) : Blk (w.setCell p u) g t cs := (Below.heap_setCell w p u g hp).trans h
theorem Blk.below {B : Nat} (h : Blk w g t cs) (hb : Below B w w') (hg : g < B) : Blk w' g t cs := (hb.block g hg).trans h
theorem Blk.sl (h : Blk w g t cs) {m : Nat} {f : Nat → Value} (hf : ∀ j, j < m → cs[j]? = some (f j)) : Sl w (some ⟨g, 0, none⟩) m f := fun _ =>
  ⟨g, 0, rfl, h.lt, fun j hj => by rw [h.cell, Nat.zero_add]; exact hf j hj⟩
end

/-- an array of m cells -/
def arr (m : Nat) (f : Nat → Value) : Array Value := (Array.range m).map f
theorem arr_size (m : Nat) (f : Nat → Value) : (arr m f).size = m := by simp [arr]
theorem arr_get (m : Nat) (f : Nat → Value) (j : Nat) (h : j < m) : (arr m f)[j]? = some (f j) := by simp [arr, h]
theorem arr_get? (m : Nat) (f : Nat → Value) (j : Nat) : (arr m f)[j]? = if j < m then some (f j) else none := by
  by_cases h : j < m
  · rw [arr_get m f j h, if_pos h]
  · rw [if_neg h]; exact Array.getElem?_eq_none (by rw [arr_size]; omega)
theorem arr_ext {m : Nat} {f g : Nat → Value} (h : ∀ j, j < m → f j = g j) : arr m f = arr m g := by
  apply Array.ext_getElem?
  intro j
  rw [arr_get?, arr_get?]
  by_cases hj : j < m
  · rw [if_pos hj, if_pos hj, h j hj]
  · rw [if_neg hj, if_neg hj]
theorem arr_set (m : Nat) (f : Nat → Value) (i : Nat) (u : Value) : (arr m f).setIfInBounds i u = arr m (fun j => if j = i then u else f j) := by
  apply Array.ext_getElem?
  intro j
  rw [Array.getElem?_setIfInBounds, arr_get?, arr_get?, arr_size]
  by_cases hij : i = j
  · subst hij
    simp
  · rw [if_neg hij]
    by_cases hj : j < m
    · rw [if_pos hj, if_pos hj, if_neg (fun h => hij h.symm)]
    · rw [if_neg hj, if_neg hj]
theorem made_arr (z : Array Value) (m : Nat) : madeCells z m = arr m (fun j => z[j % z.size]!) := rfl
theorem Blk.sl_arr {w : World} {g : Nat} {t : TypeId} {m k : Nat} {f : Nat → Value} (h : Blk w g t (arr m f)) (hk : k ≤ m) : Sl w (some ⟨g, 0, none⟩) k f :=
  h.sl (fun j hj => arr_get m f j (by omega))

theorem run_make_rowN {P : Program} (t e : TypeId) (i : TypeInfo) (z : Value) (ht : P.underlying t = some (.slice e)) (hi : P.info? e = some i) (hz : i.zero = some z)
    (kl kc : IntKind) (n c : Nat) (hnc : n ≤ c) (hbytes : i.bytes * c ≤ 281474976710656) (h63 : c ≤ 9223372036854775807) (w : World) :
    (Instr.makeSlice t (.int kl (n : Int)) (.int kc (c : Int))).run P w = .ok (.slice (some ⟨w.heap.size, 0, none⟩) n c) (w.alloc (.cells (madeCells z.cells (c * i.size)) e)) := by
  have hb : (i.bytes : Int) * (c : Int) ≤ 281474976710656 := by
    have h : ((i.bytes * c : Nat) : Int) ≤ 281474976710656 := by omega
    rwa [Int.natCast_mul] at h
  have hr := run_make (P := P) w t e i z ht hi hz kl kc n c (by omega) (by omega) hb (by omega)
  simp only [Int.toNat_natCast] at hr
  exact hr

theorem Blk.congr {w : World} {g : Nat} {t : TypeId} {m : Nat} {f h : Nat → Value} (hb : Blk w g t (arr m f)) (he : ∀ j, j < m → f j = h j) : Blk w g t (arr m h) := (arr_ext he) ▸ hb

/-- rows of s cells each -/
def rc (s : Nat) (F : Nat → Nat → Value) (j : Nat) : Value := F (j % s) (j / s)
theorem rc_at (s : Nat) (F : Nat → Nat → Value) (k : Nat) {i : Nat} (hi : i < s) : rc s F (k * s + i) = F i k := by
  unfold rc
  have e1 : (k * s + i) % s = i := by rw [Nat.mul_comm, Nat.mul_add_mod]; exact Nat.mod_eq_of_lt hi
  have e2 : (k * s + i) / s = k := by rw [Nat.mul_comm, Nat.mul_add_div (by omega)]; rw [Nat.div_eq_of_lt hi]; rfl
  rw [e1, e2]
theorem rc_at0 (s : Nat) (F : Nat → Nat → Value) (k : Nat) (hi : 0 < s) : rc s F (k * s) = F 0 k := rc_at s F k (i := 0) hi

/-- what a sizing function answers: -1, or what is left -/
def SzR (left : Int) (p : Prop) (e : Ending) : Prop := ∃ r : Int, e = .returned (.int .i64 r) ∧ (r = -1 ∨ (0 ≤ r ∧ r ≤ left ∧ p))
theorem SzR.no (left : Int) (p : Prop) : SzR left p (.returned (.int .i64 (-1))) := ⟨-1, rfl, .inl rfl⟩
theorem SzR.yes {left r : Int} {p : Prop} (h0 : 0 ≤ r) (h1 : r ≤ left) (h2 : p) : SzR left p (.returned (.int .i64 r)) := ⟨r, rfl, .inr ⟨h0, h1, h2⟩⟩
theorem ret_num {k : IntKind} {a b : Int} (h : a = b) : Value.int k a = Value.int k b := by rw [h]
theorem ret_int {k : IntKind} {a b : Int} (h : a = b) : Ending.returned (.int k a) = .returned (.int k b) := by rw [h]
theorem ret_bool {a b : Bool} (h : a = b) : Ending.returned (.bool a) = .returned (.bool b) := by rw [h]

/-- the first m cells are marked k0, k0 + 1, .. -/
def mk (k0 : Int) (m : Nat) (f : Nat → Value) (j : Nat) : Value := if j < m then .int .i64 (k0 + (j : Int)) else f j
theorem mk_at {k0 : Int} {m : Nat} {f : Nat → Value} {j : Nat} {x : Int} (h : j < m) (hx : x = k0 + (j : Int)) : some (mk k0 m f j) = some (.int .i64 x) := by
  unfold mk; rw [if_pos h, hx]
theorem mk_out {k0 : Int} {m : Nat} {f : Nat → Value} {j : Nat} (h : ¬ j < m) : mk k0 m f j = f j := if_neg h

theorem only_setCell {a w : World} {g : Nat} (h : a.grownBy w (some g)) {p : Addr} (hp : p.block = g ∨ a.heap.size ≤ p.block) (u : Value) : a.grownBy (w.setCell p u) (some g) :=
  ⟨h.os, h.tape, h.output, by simpa [World.setCell] using h.size, fun i hi hne => (Below.heap_setCell w p u i (by
    rintro rfl
    rcases hp with hp | hp
    · exact hne (by rw [hp])
    · omega)).trans (h.block i hi hne)⟩
theorem only_drew {a w : World} {row : Option Nat} (h : a.grownBy w row) : a.grownBy w.drew row := ⟨h.os, h.tape, h.output, h.size, h.block⟩
theorem only_alloc {a w : World} {row : Option Nat} (h : a.grownBy w row) (o : Obj) : a.grownBy (w.alloc o) row :=
  ⟨h.os, h.tape, h.output, Nat.le_trans h.size (by simp), fun i hi hne => (Below.heap_alloc w o i (Nat.lt_of_lt_of_le hi h.size)).trans (h.block i hi hne)⟩
theorem only_of_below {a w : World} (h : Below a.heap.size a w) (row : Option Nat) : a.grownBy w row := ⟨h.os, h.tape, h.output, h.size, fun i hi _ => h.block i hi⟩
theorem only_then {a w w' : World} {g : Nat} (h : a.grownBy w (some g)) (hb : Below w.heap.size w w') : a.grownBy w' (some g) :=
  ⟨hb.os.trans h.os, hb.tape.trans h.tape, hb.output.trans h.output, Nat.le_trans h.size hb.size, fun i hi hn => (hb.block i (Nat.lt_of_lt_of_le hi h.size)).trans (h.block i hi hn)⟩
/-- a slice in another block keeps its cells -/
theorem Sl.only {w w' : World} {A : Option Addr} {m : Nat} {cs : Nat → Value} {g : Nat} (h : Sl w A m cs) (hg : w.grownBy w' (some g)) (hne : ∀ ad, A = some ad → 0 < m → ad.block ≠ g) : Sl w' A m cs := fun hm => by
  obtain ⟨b, off, rfl, hlt, hc⟩ := h hm
  exact ⟨b, off, rfl, Nat.lt_of_lt_of_le hlt hg.size, fun j hj => (World.cell?_of_block (a := ⟨b, off + j, none⟩) (hg.block b hlt (fun e => hne _ rfl hm (by injection e)))).trans (hc j hj)⟩

theorem to_step2 {w : World} {B : Nat} {t : TypeId} {m k : Nat} {C z : Nat → Value} {v0 v1 : Value} (h : Blk w B t (arr m (fun j => if j = k * 2 + 1 then v1 else if j = k * 2 then v0 else if j < k * 2 then C j else z j)))
    (h0 : C (k * 2) = v0) (h1 : C (k * 2 + 1) = v1) : Blk w B t (arr m (fun j => if j < (k + 1) * 2 then C j else z j)) := h.congr (fun j _ => by
  by_cases e1 : j = k * 2 + 1
  · rw [if_pos e1, if_pos (by omega), ← h1, e1]
  by_cases e0 : j = k * 2
  · rw [if_neg e1, if_pos e0, if_pos (by omega), ← h0, e0]
  rw [if_neg e1, if_neg e0]
  by_cases hx : j < k * 2
  · rw [if_pos hx, if_pos (by omega)]
  · rw [if_neg hx, if_neg (by omega)])
theorem mk_step2 {w : World} {B : Nat} {t : TypeId} {m k : Nat} {k0 : Int} {f : Nat → Value} {x0 x1 : Int} (h : Blk w B t (arr m (fun j => if j = k * 2 + 1 then .int .i64 x1 else if j = k * 2 then .int .i64 x0 else mk k0 (k * 2) f j)))
    (h0 : x0 = k0 + ((k * 2 : Nat) : Int)) (h1 : x1 = k0 + ((k * 2 + 1 : Nat) : Int)) : Blk w B t (arr m (mk k0 ((k + 1) * 2) f)) := h.congr (fun j _ => by
  unfold mk
  by_cases e1 : j = k * 2 + 1
  · rw [if_pos e1, if_pos (by omega), h1, e1]
  by_cases e0 : j = k * 2
  · rw [if_neg e1, if_pos e0, if_pos (by omega), h0, e0]
  rw [if_neg e1, if_neg e0]
  by_cases hx : j < k * 2
  · rw [if_pos hx, if_pos (by omega)]
  · rw [if_neg hx, if_neg (by omega)])
theorem to_step3 {w : World} {B : Nat} {t : TypeId} {m k : Nat} {C z : Nat → Value} {v0 v1 v2 : Value} (h : Blk w B t (arr m (fun j => if j = k * 3 + 2 then v2 else if j = k * 3 + 1 then v1 else if j = k * 3 then v0 else if j < k * 3 then C j else z j)))
    (h0 : C (k * 3) = v0) (h1 : C (k * 3 + 1) = v1) (h2 : C (k * 3 + 2) = v2) : Blk w B t (arr m (fun j => if j < (k + 1) * 3 then C j else z j)) := h.congr (fun j _ => by
  by_cases e2 : j = k * 3 + 2
  · rw [if_pos e2, if_pos (by omega), ← h2, e2]
  by_cases e1 : j = k * 3 + 1
  · rw [if_neg e2, if_pos e1, if_pos (by omega), ← h1, e1]
  by_cases e0 : j = k * 3
  · rw [if_neg e2, if_neg e1, if_pos e0, if_pos (by omega), ← h0, e0]
  rw [if_neg e2, if_neg e1, if_neg e0]
  by_cases hx : j < k * 3
  · rw [if_pos hx, if_pos (by omega)]
  · rw [if_neg hx, if_neg (by omega)])
theorem mk_step3 {w : World} {B : Nat} {t : TypeId} {m k : Nat} {k0 : Int} {f : Nat → Value} {x0 x1 x2 : Int} (h : Blk w B t (arr m (fun j => if j = k * 3 + 2 then .int .i64 x2 else if j = k * 3 + 1 then .int .i64 x1 else if j = k * 3 then .int .i64 x0 else mk k0 (k * 3) f j)))
    (h0 : x0 = k0 + ((k * 3 : Nat) : Int)) (h1 : x1 = k0 + ((k * 3 + 1 : Nat) : Int)) (h2 : x2 = k0 + ((k * 3 + 2 : Nat) : Int)) : Blk w B t (arr m (mk k0 ((k + 1) * 3) f)) := h.congr (fun j _ => by
  unfold mk
  by_cases e2 : j = k * 3 + 2
  · rw [if_pos e2, if_pos (by omega), h2, e2]
  by_cases e1 : j = k * 3 + 1
  · rw [if_neg e2, if_pos e1, if_pos (by omega), h1, e1]
  by_cases e0 : j = k * 3
  · rw [if_neg e2, if_neg e1, if_pos e0, if_pos (by omega), h0, e0]
  rw [if_neg e2, if_neg e1, if_neg e0]
  by_cases hx : j < k * 3
  · rw [if_pos hx, if_pos (by omega)]
  · rw [if_neg hx, if_neg (by omega)])
theorem to_step5 {w : World} {B : Nat} {t : TypeId} {m k : Nat} {C z : Nat → Value} {v0 v1 v2 v3 v4 : Value} (h : Blk w B t (arr m (fun j => if j = k * 5 + 4 then v4 else if j = k * 5 + 3 then v3 else if j = k * 5 + 2 then v2 else if j = k * 5 + 1 then v1 else if j = k * 5 then v0 else if j < k * 5 then C j else z j)))
    (h0 : C (k * 5) = v0) (h1 : C (k * 5 + 1) = v1) (h2 : C (k * 5 + 2) = v2) (h3 : C (k * 5 + 3) = v3) (h4 : C (k * 5 + 4) = v4) : Blk w B t (arr m (fun j => if j < (k + 1) * 5 then C j else z j)) := h.congr (fun j _ => by
  by_cases e4 : j = k * 5 + 4
  · rw [if_pos e4, if_pos (by omega), ← h4, e4]
  by_cases e3 : j = k * 5 + 3
  · rw [if_neg e4, if_pos e3, if_pos (by omega), ← h3, e3]
  by_cases e2 : j = k * 5 + 2
  · rw [if_neg e4, if_neg e3, if_pos e2, if_pos (by omega), ← h2, e2]
  by_cases e1 : j = k * 5 + 1
  · rw [if_neg e4, if_neg e3, if_neg e2, if_pos e1, if_pos (by omega), ← h1, e1]
  by_cases e0 : j = k * 5
  · rw [if_neg e4, if_neg e3, if_neg e2, if_neg e1, if_pos e0, if_pos (by omega), ← h0, e0]
  rw [if_neg e4, if_neg e3, if_neg e2, if_neg e1, if_neg e0]
  by_cases hx : j < k * 5
  · rw [if_pos hx, if_pos (by omega)]
  · rw [if_neg hx, if_neg (by omega)])
theorem mk_step5 {w : World} {B : Nat} {t : TypeId} {m k : Nat} {k0 : Int} {f : Nat → Value} {x0 x1 x2 x3 x4 : Int} (h : Blk w B t (arr m (fun j => if j = k * 5 + 4 then .int .i64 x4 else if j = k * 5 + 3 then .int .i64 x3 else if j = k * 5 + 2 then .int .i64 x2 else if j = k * 5 + 1 then .int .i64 x1 else if j = k * 5 then .int .i64 x0 else mk k0 (k * 5) f j)))
    (h0 : x0 = k0 + ((k * 5 : Nat) : Int)) (h1 : x1 = k0 + ((k * 5 + 1 : Nat) : Int)) (h2 : x2 = k0 + ((k * 5 + 2 : Nat) : Int)) (h3 : x3 = k0 + ((k * 5 + 3 : Nat) : Int)) (h4 : x4 = k0 + ((k * 5 + 4 : Nat) : Int)) : Blk w B t (arr m (mk k0 ((k + 1) * 5) f)) := h.congr (fun j _ => by
  unfold mk
  by_cases e4 : j = k * 5 + 4
  · rw [if_pos e4, if_pos (by omega), h4, e4]
  by_cases e3 : j = k * 5 + 3
  · rw [if_neg e4, if_pos e3, if_pos (by omega), h3, e3]
  by_cases e2 : j = k * 5 + 2
  · rw [if_neg e4, if_neg e3, if_pos e2, if_pos (by omega), h2, e2]
  by_cases e1 : j = k * 5 + 1
  · rw [if_neg e4, if_neg e3, if_neg e2, if_pos e1, if_pos (by omega), h1, e1]
  by_cases e0 : j = k * 5
  · rw [if_neg e4, if_neg e3, if_neg e2, if_neg e1, if_pos e0, if_pos (by omega), h0, e0]
  rw [if_neg e4, if_neg e3, if_neg e2, if_neg e1, if_neg e0]
  by_cases hx : j < k * 5
  · rw [if_pos hx, if_pos (by omega)]
  · rw [if_neg hx, if_neg (by omega)])
theorem to_step6 {w : World} {B : Nat} {t : TypeId} {m k : Nat} {C z : Nat → Value} {v0 v1 v2 v3 v4 v5 : Value} (h : Blk w B t (arr m (fun j => if j = k * 6 + 5 then v5 else if j = k * 6 + 4 then v4 else if j = k * 6 + 3 then v3 else if j = k * 6 + 2 then v2 else if j = k * 6 + 1 then v1 else if j = k * 6 then v0 else if j < k * 6 then C j else z j)))
    (h0 : C (k * 6) = v0) (h1 : C (k * 6 + 1) = v1) (h2 : C (k * 6 + 2) = v2) (h3 : C (k * 6 + 3) = v3) (h4 : C (k * 6 + 4) = v4) (h5 : C (k * 6 + 5) = v5) : Blk w B t (arr m (fun j => if j < (k + 1) * 6 then C j else z j)) := h.congr (fun j _ => by
  by_cases e5 : j = k * 6 + 5
  · rw [if_pos e5, if_pos (by omega), ← h5, e5]
  by_cases e4 : j = k * 6 + 4
  · rw [if_neg e5, if_pos e4, if_pos (by omega), ← h4, e4]
  by_cases e3 : j = k * 6 + 3
  · rw [if_neg e5, if_neg e4, if_pos e3, if_pos (by omega), ← h3, e3]
  by_cases e2 : j = k * 6 + 2
  · rw [if_neg e5, if_neg e4, if_neg e3, if_pos e2, if_pos (by omega), ← h2, e2]
  by_cases e1 : j = k * 6 + 1
  · rw [if_neg e5, if_neg e4, if_neg e3, if_neg e2, if_pos e1, if_pos (by omega), ← h1, e1]
  by_cases e0 : j = k * 6
  · rw [if_neg e5, if_neg e4, if_neg e3, if_neg e2, if_neg e1, if_pos e0, if_pos (by omega), ← h0, e0]
  rw [if_neg e5, if_neg e4, if_neg e3, if_neg e2, if_neg e1, if_neg e0]
  by_cases hx : j < k * 6
  · rw [if_pos hx, if_pos (by omega)]
  · rw [if_neg hx, if_neg (by omega)])
theorem mk_step6 {w : World} {B : Nat} {t : TypeId} {m k : Nat} {k0 : Int} {f : Nat → Value} {x0 x1 x2 x3 x4 x5 : Int} (h : Blk w B t (arr m (fun j => if j = k * 6 + 5 then .int .i64 x5 else if j = k * 6 + 4 then .int .i64 x4 else if j = k * 6 + 3 then .int .i64 x3 else if j = k * 6 + 2 then .int .i64 x2 else if j = k * 6 + 1 then .int .i64 x1 else if j = k * 6 then .int .i64 x0 else mk k0 (k * 6) f j)))
    (h0 : x0 = k0 + ((k * 6 : Nat) : Int)) (h1 : x1 = k0 + ((k * 6 + 1 : Nat) : Int)) (h2 : x2 = k0 + ((k * 6 + 2 : Nat) : Int)) (h3 : x3 = k0 + ((k * 6 + 3 : Nat) : Int)) (h4 : x4 = k0 + ((k * 6 + 4 : Nat) : Int)) (h5 : x5 = k0 + ((k * 6 + 5 : Nat) : Int)) : Blk w B t (arr m (mk k0 ((k + 1) * 6) f)) := h.congr (fun j _ => by
  unfold mk
  by_cases e5 : j = k * 6 + 5
  · rw [if_pos e5, if_pos (by omega), h5, e5]
  by_cases e4 : j = k * 6 + 4
  · rw [if_neg e5, if_pos e4, if_pos (by omega), h4, e4]
  by_cases e3 : j = k * 6 + 3
  · rw [if_neg e5, if_neg e4, if_pos e3, if_pos (by omega), h3, e3]
  by_cases e2 : j = k * 6 + 2
  · rw [if_neg e5, if_neg e4, if_neg e3, if_pos e2, if_pos (by omega), h2, e2]
  by_cases e1 : j = k * 6 + 1
  · rw [if_neg e5, if_neg e4, if_neg e3, if_neg e2, if_pos e1, if_pos (by omega), h1, e1]
  by_cases e0 : j = k * 6
  · rw [if_neg e5, if_neg e4, if_neg e3, if_neg e2, if_neg e1, if_pos e0, if_pos (by omega), h0, e0]
  rw [if_neg e5, if_neg e4, if_neg e3, if_neg e2, if_neg e1, if_neg e0]
  by_cases hx : j < k * 6
  · rw [if_pos hx, if_pos (by omega)]
  · rw [if_neg hx, if_neg (by omega)])
structure KnotD where
  f0 : Int
  f1 : Int
def KnotD.v (x : KnotD) : Value := .agg #[.int .i64 x.f0, .int .i64 x.f1]
def KnotF (l : Nat → KnotD) : Nat → Nat → Value
  | 0, k => .int .i64 (l k).f0
  | _, k => .int .i64 (l k).f1
def KnotC (l : Nat → KnotD) : Nat → Value := rc 2 (KnotF l)
instance : Inhabited KnotD := ⟨⟨0, 0⟩⟩
def KnotOk (x : KnotD) : Prop := (-9223372036854775808 ≤ x.f0 ∧ x.f0 ≤ 9223372036854775807) ∧ (-9223372036854775808 ≤ x.f1 ∧ x.f1 ≤ 9223372036854775807)
theorem KnotC0 (l : Nat → KnotD) (k : Nat) : KnotC l (k * 2) = .int .i64 (l k).f0 := by unfold KnotC; rw [rc_at0 _ _ _ (by decide)]; rfl
theorem KnotC1 (l : Nat → KnotD) (k : Nat) : KnotC l (k * 2 + 1) = .int .i64 (l k).f1 := by unfold KnotC; rw [rc_at _ _ _ (by decide)]; rfl
/-- a Knot lies there -/
def KnotAt (w : World) (b o : Nat) (x : KnotD) : Prop := b < w.heap.size ∧ w.cell? ⟨b, o, none⟩ = some (.int .i64 x.f0) ∧ w.cell? ⟨b, o + 1, none⟩ = some (.int .i64 x.f1)
theorem KnotAt.below {w w' : World} {b o : Nat} {x : KnotD} (h : KnotAt w b o x) (hb : Below w.heap.size w w') : KnotAt w' b o x := ⟨Nat.lt_of_lt_of_le h.1 hb.size, (hb.cell (p := ⟨b, o, none⟩) h.1).trans h.2.1, (hb.cell (p := ⟨b, o + 1, none⟩) h.1).trans h.2.2⟩
theorem KnotAt.of_sl {w : World} {A : Option Addr} {n : Nat} {l : Nat → KnotD} (h : Sl w A (n * 2) (KnotC l)) (hn : 0 < n) : ∃ b off, A = some ⟨b, off, none⟩ ∧ ∀ k, k < n → KnotAt w b (off + k * 2) (l k) := by
  obtain ⟨b, off, hA, hlt, hc⟩ := h (by omega)
  refine ⟨b, off, hA, fun k hk => ⟨hlt, ?_, ?_⟩⟩
  · rw [hc (k * 2) (by omega), KnotC0]
  · rw [Nat.add_assoc]; rw [hc (k * 2 + 1) (by omega), KnotC1]

structure SpotD where
  f0 : Int
  f1 : Int
def SpotD.v (x : SpotD) : Value := .agg #[.int .i64 x.f0, .int .i64 x.f1]
def SpotF (l : Nat → SpotD) : Nat → Nat → Value
  | 0, k => .int .i64 (l k).f0
  | _, k => .int .i64 (l k).f1
def SpotC (l : Nat → SpotD) : Nat → Value := rc 2 (SpotF l)
instance : Inhabited SpotD := ⟨⟨0, 0⟩⟩
def SpotOk (x : SpotD) : Prop := (-9223372036854775808 ≤ x.f0 ∧ x.f0 ≤ 9223372036854775807) ∧ (-9223372036854775808 ≤ x.f1 ∧ x.f1 ≤ 9223372036854775807)
theorem SpotC0 (l : Nat → SpotD) (k : Nat) : SpotC l (k * 2) = .int .i64 (l k).f0 := by unfold SpotC; rw [rc_at0 _ _ _ (by decide)]; rfl
theorem SpotC1 (l : Nat → SpotD) (k : Nat) : SpotC l (k * 2 + 1) = .int .i64 (l k).f1 := by unfold SpotC; rw [rc_at _ _ _ (by decide)]; rfl
/-- a Spot lies there -/
def SpotAt (w : World) (b o : Nat) (x : SpotD) : Prop := b < w.heap.size ∧ w.cell? ⟨b, o, none⟩ = some (.int .i64 x.f0) ∧ w.cell? ⟨b, o + 1, none⟩ = some (.int .i64 x.f1)
theorem SpotAt.below {w w' : World} {b o : Nat} {x : SpotD} (h : SpotAt w b o x) (hb : Below w.heap.size w w') : SpotAt w' b o x := ⟨Nat.lt_of_lt_of_le h.1 hb.size, (hb.cell (p := ⟨b, o, none⟩) h.1).trans h.2.1, (hb.cell (p := ⟨b, o + 1, none⟩) h.1).trans h.2.2⟩
theorem SpotAt.of_sl {w : World} {A : Option Addr} {n : Nat} {l : Nat → SpotD} (h : Sl w A (n * 2) (SpotC l)) (hn : 0 < n) : ∃ b off, A = some ⟨b, off, none⟩ ∧ ∀ k, k < n → SpotAt w b (off + k * 2) (l k) := by
  obtain ⟨b, off, hA, hlt, hc⟩ := h (by omega)
  refine ⟨b, off, hA, fun k hk => ⟨hlt, ?_, ?_⟩⟩
  · rw [hc (k * 2) (by omega), SpotC0]
  · rw [Nat.add_assoc]; rw [hc (k * 2 + 1) (by omega), SpotC1]

structure MaskD where
  f0 : Int
  f1 : Int
  f2 : Int
  f3 : Int
  f4 : Int
def MaskD.v (x : MaskD) : Value := .agg #[.int .i64 x.f0, .int .i64 x.f1, .int .i64 x.f2, .int .i64 x.f3, .int .i64 x.f4]
def MaskF (l : Nat → MaskD) : Nat → Nat → Value
  | 0, k => .int .i64 (l k).f0
  | 1, k => .int .i64 (l k).f1
  | 2, k => .int .i64 (l k).f2
  | 3, k => .int .i64 (l k).f3
  | _, k => .int .i64 (l k).f4
def MaskC (l : Nat → MaskD) : Nat → Value := rc 5 (MaskF l)
instance : Inhabited MaskD := ⟨⟨0, 0, 0, 0, 0⟩⟩
def MaskOk (x : MaskD) : Prop := (-9223372036854775808 ≤ x.f0 ∧ x.f0 ≤ 9223372036854775807) ∧ (-9223372036854775808 ≤ x.f1 ∧ x.f1 ≤ 9223372036854775807) ∧ (-9223372036854775808 ≤ x.f2 ∧ x.f2 ≤ 9223372036854775807) ∧ (-9223372036854775808 ≤ x.f3 ∧ x.f3 ≤ 9223372036854775807) ∧ (-9223372036854775808 ≤ x.f4 ∧ x.f4 ≤ 9223372036854775807)
theorem MaskC0 (l : Nat → MaskD) (k : Nat) : MaskC l (k * 5) = .int .i64 (l k).f0 := by unfold MaskC; rw [rc_at0 _ _ _ (by decide)]; rfl
theorem MaskC1 (l : Nat → MaskD) (k : Nat) : MaskC l (k * 5 + 1) = .int .i64 (l k).f1 := by unfold MaskC; rw [rc_at _ _ _ (by decide)]; rfl
theorem MaskC2 (l : Nat → MaskD) (k : Nat) : MaskC l (k * 5 + 2) = .int .i64 (l k).f2 := by unfold MaskC; rw [rc_at _ _ _ (by decide)]; rfl
theorem MaskC3 (l : Nat → MaskD) (k : Nat) : MaskC l (k * 5 + 3) = .int .i64 (l k).f3 := by unfold MaskC; rw [rc_at _ _ _ (by decide)]; rfl
theorem MaskC4 (l : Nat → MaskD) (k : Nat) : MaskC l (k * 5 + 4) = .int .i64 (l k).f4 := by unfold MaskC; rw [rc_at _ _ _ (by decide)]; rfl
/-- a Mask lies there -/
def MaskAt (w : World) (b o : Nat) (x : MaskD) : Prop := b < w.heap.size ∧ w.cell? ⟨b, o, none⟩ = some (.int .i64 x.f0) ∧ w.cell? ⟨b, o + 1, none⟩ = some (.int .i64 x.f1) ∧ w.cell? ⟨b, o + 2, none⟩ = some (.int .i64 x.f2) ∧ w.cell? ⟨b, o + 3, none⟩ = some (.int .i64 x.f3) ∧ w.cell? ⟨b, o + 4, none⟩ = some (.int .i64 x.f4)
theorem MaskAt.below {w w' : World} {b o : Nat} {x : MaskD} (h : MaskAt w b o x) (hb : Below w.heap.size w w') : MaskAt w' b o x := ⟨Nat.lt_of_lt_of_le h.1 hb.size, (hb.cell (p := ⟨b, o, none⟩) h.1).trans h.2.1, (hb.cell (p := ⟨b, o + 1, none⟩) h.1).trans h.2.2.1, (hb.cell (p := ⟨b, o + 2, none⟩) h.1).trans h.2.2.2.1, (hb.cell (p := ⟨b, o + 3, none⟩) h.1).trans h.2.2.2.2.1, (hb.cell (p := ⟨b, o + 4, none⟩) h.1).trans h.2.2.2.2.2⟩
theorem MaskAt.of_sl {w : World} {A : Option Addr} {n : Nat} {l : Nat → MaskD} (h : Sl w A (n * 5) (MaskC l)) (hn : 0 < n) : ∃ b off, A = some ⟨b, off, none⟩ ∧ ∀ k, k < n → MaskAt w b (off + k * 5) (l k) := by
  obtain ⟨b, off, hA, hlt, hc⟩ := h (by omega)
  refine ⟨b, off, hA, fun k hk => ⟨hlt, ?_, ?_, ?_, ?_, ?_⟩⟩
  · rw [hc (k * 5) (by omega), MaskC0]
  · rw [Nat.add_assoc]; rw [hc (k * 5 + 1) (by omega), MaskC1]
  · rw [Nat.add_assoc]; rw [hc (k * 5 + 2) (by omega), MaskC2]
  · rw [Nat.add_assoc]; rw [hc (k * 5 + 3) (by omega), MaskC3]
  · rw [Nat.add_assoc]; rw [hc (k * 5 + 4) (by omega), MaskC4]

structure CueD where
  f0 : ByteArray
  f1 : Int
  f2 : Int
  f3 : ByteArray
  f4 : Int
  f5 : Int
def CueD.v (x : CueD) : Value := .agg #[.string x.f0, .int .i64 x.f1, .int .i64 x.f2, .string x.f3, .int .i64 x.f4, .int .i64 x.f5]
def CueF (l : Nat → CueD) : Nat → Nat → Value
  | 0, k => .string (l k).f0
  | 1, k => .int .i64 (l k).f1
  | 2, k => .int .i64 (l k).f2
  | 3, k => .string (l k).f3
  | 4, k => .int .i64 (l k).f4
  | _, k => .int .i64 (l k).f5
def CueC (l : Nat → CueD) : Nat → Value := rc 6 (CueF l)
instance : Inhabited CueD := ⟨⟨ByteArray.empty, 0, 0, ByteArray.empty, 0, 0⟩⟩
def CueOk (x : CueD) : Prop := x.f0.size ≤ 9223372036854775807 ∧ (-9223372036854775808 ≤ x.f1 ∧ x.f1 ≤ 9223372036854775807) ∧ (-9223372036854775808 ≤ x.f2 ∧ x.f2 ≤ 9223372036854775807) ∧ x.f3.size ≤ 9223372036854775807 ∧ (-9223372036854775808 ≤ x.f4 ∧ x.f4 ≤ 9223372036854775807) ∧ (-9223372036854775808 ≤ x.f5 ∧ x.f5 ≤ 9223372036854775807)
theorem CueC0 (l : Nat → CueD) (k : Nat) : CueC l (k * 6) = .string (l k).f0 := by unfold CueC; rw [rc_at0 _ _ _ (by decide)]; rfl
theorem CueC1 (l : Nat → CueD) (k : Nat) : CueC l (k * 6 + 1) = .int .i64 (l k).f1 := by unfold CueC; rw [rc_at _ _ _ (by decide)]; rfl
theorem CueC2 (l : Nat → CueD) (k : Nat) : CueC l (k * 6 + 2) = .int .i64 (l k).f2 := by unfold CueC; rw [rc_at _ _ _ (by decide)]; rfl
theorem CueC3 (l : Nat → CueD) (k : Nat) : CueC l (k * 6 + 3) = .string (l k).f3 := by unfold CueC; rw [rc_at _ _ _ (by decide)]; rfl
theorem CueC4 (l : Nat → CueD) (k : Nat) : CueC l (k * 6 + 4) = .int .i64 (l k).f4 := by unfold CueC; rw [rc_at _ _ _ (by decide)]; rfl
theorem CueC5 (l : Nat → CueD) (k : Nat) : CueC l (k * 6 + 5) = .int .i64 (l k).f5 := by unfold CueC; rw [rc_at _ _ _ (by decide)]; rfl
/-- a Cue lies there -/
def CueAt (w : World) (b o : Nat) (x : CueD) : Prop := b < w.heap.size ∧ w.cell? ⟨b, o, none⟩ = some (.string x.f0) ∧ w.cell? ⟨b, o + 1, none⟩ = some (.int .i64 x.f1) ∧ w.cell? ⟨b, o + 2, none⟩ = some (.int .i64 x.f2) ∧ w.cell? ⟨b, o + 3, none⟩ = some (.string x.f3) ∧ w.cell? ⟨b, o + 4, none⟩ = some (.int .i64 x.f4) ∧ w.cell? ⟨b, o + 5, none⟩ = some (.int .i64 x.f5)
theorem CueAt.below {w w' : World} {b o : Nat} {x : CueD} (h : CueAt w b o x) (hb : Below w.heap.size w w') : CueAt w' b o x := ⟨Nat.lt_of_lt_of_le h.1 hb.size, (hb.cell (p := ⟨b, o, none⟩) h.1).trans h.2.1, (hb.cell (p := ⟨b, o + 1, none⟩) h.1).trans h.2.2.1, (hb.cell (p := ⟨b, o + 2, none⟩) h.1).trans h.2.2.2.1, (hb.cell (p := ⟨b, o + 3, none⟩) h.1).trans h.2.2.2.2.1, (hb.cell (p := ⟨b, o + 4, none⟩) h.1).trans h.2.2.2.2.2.1, (hb.cell (p := ⟨b, o + 5, none⟩) h.1).trans h.2.2.2.2.2.2⟩
theorem CueAt.of_sl {w : World} {A : Option Addr} {n : Nat} {l : Nat → CueD} (h : Sl w A (n * 6) (CueC l)) (hn : 0 < n) : ∃ b off, A = some ⟨b, off, none⟩ ∧ ∀ k, k < n → CueAt w b (off + k * 6) (l k) := by
  obtain ⟨b, off, hA, hlt, hc⟩ := h (by omega)
  refine ⟨b, off, hA, fun k hk => ⟨hlt, ?_, ?_, ?_, ?_, ?_, ?_⟩⟩
  · rw [hc (k * 6) (by omega), CueC0]
  · rw [Nat.add_assoc]; rw [hc (k * 6 + 1) (by omega), CueC1]
  · rw [Nat.add_assoc]; rw [hc (k * 6 + 2) (by omega), CueC2]
  · rw [Nat.add_assoc]; rw [hc (k * 6 + 3) (by omega), CueC3]
  · rw [Nat.add_assoc]; rw [hc (k * 6 + 4) (by omega), CueC4]
  · rw [Nat.add_assoc]; rw [hc (k * 6 + 5) (by omega), CueC5]

structure ProjectorD where
  f0 : ByteArray
  f1 : Int
  f2 : Int
  f3 : Int
  f4 : Int
def ProjectorD.v (x : ProjectorD) : Value := .agg #[.string x.f0, .int .i64 x.f1, .int .i64 x.f2, .int .i64 x.f3, .int .i64 x.f4]
def ProjectorF (l : Nat → ProjectorD) : Nat → Nat → Value
  | 0, k => .string (l k).f0
  | 1, k => .int .i64 (l k).f1
  | 2, k => .int .i64 (l k).f2
  | 3, k => .int .i64 (l k).f3
  | _, k => .int .i64 (l k).f4
def ProjectorC (l : Nat → ProjectorD) : Nat → Value := rc 5 (ProjectorF l)
instance : Inhabited ProjectorD := ⟨⟨ByteArray.empty, 0, 0, 0, 0⟩⟩
def ProjectorOk (x : ProjectorD) : Prop := x.f0.size ≤ 9223372036854775807 ∧ (-9223372036854775808 ≤ x.f1 ∧ x.f1 ≤ 9223372036854775807) ∧ (-9223372036854775808 ≤ x.f2 ∧ x.f2 ≤ 9223372036854775807) ∧ (-9223372036854775808 ≤ x.f3 ∧ x.f3 ≤ 9223372036854775807) ∧ (-9223372036854775808 ≤ x.f4 ∧ x.f4 ≤ 9223372036854775807)
theorem ProjectorC0 (l : Nat → ProjectorD) (k : Nat) : ProjectorC l (k * 5) = .string (l k).f0 := by unfold ProjectorC; rw [rc_at0 _ _ _ (by decide)]; rfl
theorem ProjectorC1 (l : Nat → ProjectorD) (k : Nat) : ProjectorC l (k * 5 + 1) = .int .i64 (l k).f1 := by unfold ProjectorC; rw [rc_at _ _ _ (by decide)]; rfl
theorem ProjectorC2 (l : Nat → ProjectorD) (k : Nat) : ProjectorC l (k * 5 + 2) = .int .i64 (l k).f2 := by unfold ProjectorC; rw [rc_at _ _ _ (by decide)]; rfl
theorem ProjectorC3 (l : Nat → ProjectorD) (k : Nat) : ProjectorC l (k * 5 + 3) = .int .i64 (l k).f3 := by unfold ProjectorC; rw [rc_at _ _ _ (by decide)]; rfl
theorem ProjectorC4 (l : Nat → ProjectorD) (k : Nat) : ProjectorC l (k * 5 + 4) = .int .i64 (l k).f4 := by unfold ProjectorC; rw [rc_at _ _ _ (by decide)]; rfl
/-- a Projector lies there -/
def ProjectorAt (w : World) (b o : Nat) (x : ProjectorD) : Prop := b < w.heap.size ∧ w.cell? ⟨b, o, none⟩ = some (.string x.f0) ∧ w.cell? ⟨b, o + 1, none⟩ = some (.int .i64 x.f1) ∧ w.cell? ⟨b, o + 2, none⟩ = some (.int .i64 x.f2) ∧ w.cell? ⟨b, o + 3, none⟩ = some (.int .i64 x.f3) ∧ w.cell? ⟨b, o + 4, none⟩ = some (.int .i64 x.f4)
theorem ProjectorAt.below {w w' : World} {b o : Nat} {x : ProjectorD} (h : ProjectorAt w b o x) (hb : Below w.heap.size w w') : ProjectorAt w' b o x := ⟨Nat.lt_of_lt_of_le h.1 hb.size, (hb.cell (p := ⟨b, o, none⟩) h.1).trans h.2.1, (hb.cell (p := ⟨b, o + 1, none⟩) h.1).trans h.2.2.1, (hb.cell (p := ⟨b, o + 2, none⟩) h.1).trans h.2.2.2.1, (hb.cell (p := ⟨b, o + 3, none⟩) h.1).trans h.2.2.2.2.1, (hb.cell (p := ⟨b, o + 4, none⟩) h.1).trans h.2.2.2.2.2⟩
theorem ProjectorAt.of_sl {w : World} {A : Option Addr} {n : Nat} {l : Nat → ProjectorD} (h : Sl w A (n * 5) (ProjectorC l)) (hn : 0 < n) : ∃ b off, A = some ⟨b, off, none⟩ ∧ ∀ k, k < n → ProjectorAt w b (off + k * 5) (l k) := by
  obtain ⟨b, off, hA, hlt, hc⟩ := h (by omega)
  refine ⟨b, off, hA, fun k hk => ⟨hlt, ?_, ?_, ?_, ?_, ?_⟩⟩
  · rw [hc (k * 5) (by omega), ProjectorC0]
  · rw [Nat.add_assoc]; rw [hc (k * 5 + 1) (by omega), ProjectorC1]
  · rw [Nat.add_assoc]; rw [hc (k * 5 + 2) (by omega), ProjectorC2]
  · rw [Nat.add_assoc]; rw [hc (k * 5 + 3) (by omega), ProjectorC3]
  · rw [Nat.add_assoc]; rw [hc (k * 5 + 4) (by omega), ProjectorC4]

structure DomeD where
  f0 : ByteArray
  f1 : Int
  f2 : Int
def DomeD.v (x : DomeD) : Value := .agg #[.string x.f0, .int .i64 x.f1, .int .i64 x.f2]
def DomeF (l : Nat → DomeD) : Nat → Nat → Value
  | 0, k => .string (l k).f0
  | 1, k => .int .i64 (l k).f1
  | _, k => .int .i64 (l k).f2
def DomeC (l : Nat → DomeD) : Nat → Value := rc 3 (DomeF l)
instance : Inhabited DomeD := ⟨⟨ByteArray.empty, 0, 0⟩⟩
def DomeOk (x : DomeD) : Prop := x.f0.size ≤ 9223372036854775807 ∧ (-9223372036854775808 ≤ x.f1 ∧ x.f1 ≤ 9223372036854775807) ∧ (-9223372036854775808 ≤ x.f2 ∧ x.f2 ≤ 9223372036854775807)
theorem DomeC0 (l : Nat → DomeD) (k : Nat) : DomeC l (k * 3) = .string (l k).f0 := by unfold DomeC; rw [rc_at0 _ _ _ (by decide)]; rfl
theorem DomeC1 (l : Nat → DomeD) (k : Nat) : DomeC l (k * 3 + 1) = .int .i64 (l k).f1 := by unfold DomeC; rw [rc_at _ _ _ (by decide)]; rfl
theorem DomeC2 (l : Nat → DomeD) (k : Nat) : DomeC l (k * 3 + 2) = .int .i64 (l k).f2 := by unfold DomeC; rw [rc_at _ _ _ (by decide)]; rfl
/-- a Dome lies there -/
def DomeAt (w : World) (b o : Nat) (x : DomeD) : Prop := b < w.heap.size ∧ w.cell? ⟨b, o, none⟩ = some (.string x.f0) ∧ w.cell? ⟨b, o + 1, none⟩ = some (.int .i64 x.f1) ∧ w.cell? ⟨b, o + 2, none⟩ = some (.int .i64 x.f2)
theorem DomeAt.below {w w' : World} {b o : Nat} {x : DomeD} (h : DomeAt w b o x) (hb : Below w.heap.size w w') : DomeAt w' b o x := ⟨Nat.lt_of_lt_of_le h.1 hb.size, (hb.cell (p := ⟨b, o, none⟩) h.1).trans h.2.1, (hb.cell (p := ⟨b, o + 1, none⟩) h.1).trans h.2.2.1, (hb.cell (p := ⟨b, o + 2, none⟩) h.1).trans h.2.2.2⟩
theorem DomeAt.of_sl {w : World} {A : Option Addr} {n : Nat} {l : Nat → DomeD} (h : Sl w A (n * 3) (DomeC l)) (hn : 0 < n) : ∃ b off, A = some ⟨b, off, none⟩ ∧ ∀ k, k < n → DomeAt w b (off + k * 3) (l k) := by
  obtain ⟨b, off, hA, hlt, hc⟩ := h (by omega)
  refine ⟨b, off, hA, fun k hk => ⟨hlt, ?_, ?_, ?_⟩⟩
  · rw [hc (k * 3) (by omega), DomeC0]
  · rw [Nat.add_assoc]; rw [hc (k * 3 + 1) (by omega), DomeC1]
  · rw [Nat.add_assoc]; rw [hc (k * 3 + 2) (by omega), DomeC2]

structure VectorD where
  f0 : Int
  f1 : Int
  f2 : Int
def VectorD.v (x : VectorD) : Value := .agg #[.int .i64 x.f0, .int .i64 x.f1, .int .i64 x.f2]
def VectorF (l : Nat → VectorD) : Nat → Nat → Value
  | 0, k => .int .i64 (l k).f0
  | 1, k => .int .i64 (l k).f1
  | _, k => .int .i64 (l k).f2
def VectorC (l : Nat → VectorD) : Nat → Value := rc 3 (VectorF l)
instance : Inhabited VectorD := ⟨⟨0, 0, 0⟩⟩
def VectorOk (x : VectorD) : Prop := (-9223372036854775808 ≤ x.f0 ∧ x.f0 ≤ 9223372036854775807) ∧ (-9223372036854775808 ≤ x.f1 ∧ x.f1 ≤ 9223372036854775807) ∧ (-9223372036854775808 ≤ x.f2 ∧ x.f2 ≤ 9223372036854775807)
theorem VectorC0 (l : Nat → VectorD) (k : Nat) : VectorC l (k * 3) = .int .i64 (l k).f0 := by unfold VectorC; rw [rc_at0 _ _ _ (by decide)]; rfl
theorem VectorC1 (l : Nat → VectorD) (k : Nat) : VectorC l (k * 3 + 1) = .int .i64 (l k).f1 := by unfold VectorC; rw [rc_at _ _ _ (by decide)]; rfl
theorem VectorC2 (l : Nat → VectorD) (k : Nat) : VectorC l (k * 3 + 2) = .int .i64 (l k).f2 := by unfold VectorC; rw [rc_at _ _ _ (by decide)]; rfl
/-- a Vector lies there -/
def VectorAt (w : World) (b o : Nat) (x : VectorD) : Prop := b < w.heap.size ∧ w.cell? ⟨b, o, none⟩ = some (.int .i64 x.f0) ∧ w.cell? ⟨b, o + 1, none⟩ = some (.int .i64 x.f1) ∧ w.cell? ⟨b, o + 2, none⟩ = some (.int .i64 x.f2)
theorem VectorAt.below {w w' : World} {b o : Nat} {x : VectorD} (h : VectorAt w b o x) (hb : Below w.heap.size w w') : VectorAt w' b o x := ⟨Nat.lt_of_lt_of_le h.1 hb.size, (hb.cell (p := ⟨b, o, none⟩) h.1).trans h.2.1, (hb.cell (p := ⟨b, o + 1, none⟩) h.1).trans h.2.2.1, (hb.cell (p := ⟨b, o + 2, none⟩) h.1).trans h.2.2.2⟩
theorem VectorAt.of_sl {w : World} {A : Option Addr} {n : Nat} {l : Nat → VectorD} (h : Sl w A (n * 3) (VectorC l)) (hn : 0 < n) : ∃ b off, A = some ⟨b, off, none⟩ ∧ ∀ k, k < n → VectorAt w b (off + k * 3) (l k) := by
  obtain ⟨b, off, hA, hlt, hc⟩ := h (by omega)
  refine ⟨b, off, hA, fun k hk => ⟨hlt, ?_, ?_, ?_⟩⟩
  · rw [hc (k * 3) (by omega), VectorC0]
  · rw [Nat.add_assoc]; rw [hc (k * 3 + 1) (by omega), VectorC1]
  · rw [Nat.add_assoc]; rw [hc (k * 3 + 2) (by omega), VectorC2]


/-- lo ≤ n ≤ hi -/
def inB (n lo hi : Int) : Bool := decide (lo ≤ n ∧ n ≤ hi)
theorem inB_iff {n lo hi : Int} : inB n lo hi = true ↔ lo ≤ n ∧ n ≤ hi := by simp [inB]
theorem inB_no {n lo hi : Int} : inB n lo hi = false ↔ ¬ (lo ≤ n ∧ n ≤ hi) := by simp [inB]
theorem inB_eq {n lo hi : Int} {b : Bool} (h : b = true ↔ lo ≤ n ∧ n ≤ hi) : inB n lo hi = b := by
  rw [Bool.eq_iff_iff, inB_iff, h]

def okAt (l : Nat → KnotD) (k : Nat) : Prop := inB (l k).f1 0 1000 = true ∧ (0 < k → (l (k - 1)).f0 < (l k).f0 ∧ (l (k - 1)).f1 ≤ (l k).f1)
def CurveOk (n : Nat) (l : Nat → KnotD) : Prop := 2 ≤ n ∧ n ≤ 16 ∧ (l 0).f0 = 0 ∧ (l (n - 1)).f0 = 1000 ∧ ∀ k, k < n → okAt l k
open Classical in
noncomputable def curveOk (n : Nat) (l : Nat → KnotD) : Bool := decide (CurveOk n l)
theorem curveOk_no {n : Nat} {l : Nat → KnotD} (h : ¬ CurveOk n l) : curveOk n l = false := by simp [curveOk, h]
theorem curveOk_yes {n : Nat} {l : Nat → KnotD} (h : CurveOk n l) : curveOk n l = true := by simp [curveOk, h]
theorem curveOk_iff {n : Nat} {l : Nat → KnotD} : curveOk n l = true ↔ CurveOk n l := by simp [curveOk]
theorem okAll {p : Nat → Prop} {k : Nat} (h : ∀ j, j < k → p j) (hk : p k) : ∀ j, j < k + 1 → p j := fun j hj => by
  rcases Nat.lt_or_ge j k with h' | h'
  · exact h j h'
  · obtain rfl : j = k := by omega
    exact hk
end Go.Ks
