/- The shares of projectors at a direction: plain arithmetic, and appends that tell where the row lies. -/
import Derived.Test.YthjllledhcfnhaaDoorRaw
import Derived.Test.YthjllledhcfnhaaDoorInts
import Derived.Test.YthjllledhcfnhaaDoorAppendStep
namespace Go.Ks
open Go.RowKit Go.Lib
def sumTo (f : Nat → Int) : Nat → Int
  | 0 => 0
  | k + 1 => sumTo f k + f k
theorem sumTo_bd {f : Nat → Int} {m : Int} (h0 : 0 ≤ m) : ∀ k, (∀ j, j < k → 0 ≤ f j ∧ f j ≤ m) → 0 ≤ sumTo f k ∧ sumTo f k ≤ m * (k : Int)
  | 0, _ => by simp [sumTo]
  | k + 1, h => by
    have ih := sumTo_bd h0 k (fun j hj => h j (by omega))
    have hk := h k (by omega)
    have e : m * ((k + 1 : Nat) : Int) = m * (k : Int) + m := by rw [Int.natCast_add, Int.mul_add]; simp
    rw [e]
    unfold sumTo
    omega
theorem sumTo_congr {f g : Nat → Int} : ∀ k, (∀ j, j < k → f j = g j) → sumTo f k = sumTo g k
  | 0, _ => rfl
  | k + 1, h => by unfold sumTo; rw [sumTo_congr k (fun j hj => h j (by omega)), h k (by omega)]
/-- the first greatest of f 0 .. f k -/
def bestTo (f : Nat → Int) : Nat → Nat
  | 0 => 0
  | k + 1 => if f (bestTo f k) < f (k + 1) then k + 1 else bestTo f k
theorem bestTo_le (f : Nat → Int) : ∀ k, bestTo f k ≤ k
  | 0 => Nat.le_refl _
  | k + 1 => by
    have ih := bestTo_le f k
    unfold bestTo
    split <;> omega
theorem best_yes {f : Nat → Int} {k : Nat} (h : f (bestTo f k) < f (k + 1)) : bestTo f (k + 1) = k + 1 := by rw [bestTo, if_pos h]
theorem best_no {f : Nat → Int} {k : Nat} (h : ¬ f (bestTo f k) < f (k + 1)) : bestTo f (k + 1) = bestTo f k := by rw [bestTo, if_neg h]
def upd (f : Nat → Int) (i : Nat) (v : Int) : Nat → Int := fun j => if j = i then v else f j
theorem upd_at (f : Nat → Int) (i : Nat) (v : Int) : upd f i v i = v := if_pos rfl
/-- the shares and the rests after k steps -/
def stepO (n : Nat) (q r : Nat → Int) : Nat → (Nat → Int) × (Nat → Int)
  | 0 => (q, r)
  | k + 1 => (upd (stepO n q r k).1 (bestTo (stepO n q r k).2 (n - 1)) ((stepO n q r k).1 (bestTo (stepO n q r k).2 (n - 1)) + 1), upd (stepO n q r k).2 (bestTo (stepO n q r k).2 (n - 1)) (-1))
theorem stepO_bd {n : Nat} {q r : Nat → Int} {m : Int} (h : ∀ j, j < n → 0 ≤ q j ∧ q j ≤ m) : ∀ k j, j < n → 0 ≤ (stepO n q r k).1 j ∧ (stepO n q r k).1 j ≤ m + (k : Int)
  | 0, j, hj => by have := h j hj; simp [stepO]; omega
  | k + 1, j, hj => by
    have ih := stepO_bd (r := r) h k
    have hb := bestTo_le (stepO n q r k).2 (n - 1)
    have i1 := ih j hj
    have i2 := ih (bestTo (stepO n q r k).2 (n - 1)) (by omega)
    simp only [stepO, upd]
    split <;> omega
variable (l : Nat → ProjectorD) (az alt : Int) (n : Nat)
def rawF (k : Nat) : Int := rawP (l k) az alt
def rawS : Int := sumTo (rawF l az alt) n
def quoF (k : Nat) : Int := 1000 * rawF l az alt k / rawS l az alt n
def remF (k : Nat) : Int := 1000 * rawF l az alt k % rawS l az alt n
def leftN : Int := 1000 - sumTo (quoF l az alt n) n
def sharesL : Nat → Int := (stepO n (quoF l az alt n) (remF l az alt n) (leftN l az alt n).toNat).1
def sharesN : Nat := if rawS l az alt n = 0 then 0 else n
variable {l az alt n}
theorem rawF_bd {n : Nat} (h : ∀ k, k < n → 5000 ≤ (l k).f3) {k : Nat} (hk : k < n) : 0 ≤ rawF l az alt k ∧ rawF l az alt k ≤ 1001 := rawP_bd (h k hk)
theorem rawS_bd (h : ∀ k, k < n → 5000 ≤ (l k).f3) {k : Nat} (hk : k ≤ n) : 0 ≤ sumTo (rawF l az alt) k ∧ sumTo (rawF l az alt) k ≤ 1001 * (k : Int) := sumTo_bd (by omega) k (fun j hj => rawF_bd h (by omega))
theorem quo_small {a s : Int} (h0 : 0 ≤ a) (h1 : a ≤ 1001) (hs : 0 < s) : 0 ≤ 1000 * a / s ∧ 1000 * a / s ≤ 1001000 := by
  refine ⟨Int.ediv_nonneg (by omega) (by omega), Int.ediv_le_of_le_mul hs ?_⟩
  have : 1001000 * 1 ≤ 1001000 * s := Int.mul_le_mul_of_nonneg_left (by omega) (by omega)
  omega
theorem quoF_bd (h : ∀ k, k < n → 5000 ≤ (l k).f3) (hs : rawS l az alt n ≠ 0) {k : Nat} (hk : k < n) : 0 ≤ quoF l az alt n k ∧ quoF l az alt n k ≤ 1001000 := by
  have r := rawF_bd (az := az) (alt := alt) h hk
  have s := (rawS_bd (az := az) (alt := alt) h (Nat.le_refl n)).1
  exact quo_small r.1 r.2 (by unfold rawS at *; omega)
theorem quoS_bd (h : ∀ k, k < n → 5000 ≤ (l k).f3) (hs : rawS l az alt n ≠ 0) {k : Nat} (hk : k ≤ n) : 0 ≤ sumTo (quoF l az alt n) k ∧ sumTo (quoF l az alt n) k ≤ 1001000 * (k : Int) := sumTo_bd (by omega) k (fun j hj => quoF_bd h hs (by omega))
theorem sharesL_bd (h : ∀ k, k < n → 5000 ≤ (l k).f3) (hs : rawS l az alt n ≠ 0) {k : Nat} (hk : k < n) : 0 ≤ sharesL l az alt n k ∧ sharesL l az alt n k ≤ 1002000 := by
  have b := stepO_bd (q := quoF l az alt n) (r := remF l az alt n) (m := 1001000) (fun j hj => quoF_bd (az := az) (alt := alt) h hs hj) (leftN l az alt n).toNat k hk
  have q := (quoS_bd (az := az) (alt := alt) h hs (Nat.le_refl n)).1
  unfold sharesL
  have : (leftN l az alt n).toNat ≤ 1000 := by unfold leftN; omega
  omega
theorem sharesN_pos (hs : rawS l az alt n ≠ 0) : sharesN l az alt n = n ∧ 0 < n := by
  refine ⟨if_neg hs, ?_⟩
  rcases Nat.eq_zero_or_pos n with rfl | h
  · exact absurd rfl hs
  · exact h
section
variable {P : Program} {w w' : World} {base : Nat} {e : TypeId} {size : Nat} {v : Value} {n : Nat} {f : Nat → Value}
/-- append of one element; the row's block is the old one or a new one -/
theorem wpList_append_at {ops : Array Oper} {rest : List Oper} {o : Oper} {a : Act} {Q : Exit → Act → World → Prop} (hgd : o.guard = none) (s x : Operand) (t : TypeId)
    (ho : o.op = .call { callee := .builtin .append, args := #[s, x], argTypes := #[t, t] })
    (base : Nat) (e : TypeId) (i : TypeInfo) (z : Value) (size bytes : Nat) (ht : P.underlying t = some (.slice e)) (hi : P.info? e = some i) (hz : i.zero = some z)
    (hsize : i.size = size) (hby : i.bytes = bytes) (hzs : z.cells.size = size) (hsz : 0 < size)
    (v : Value) (n : Nat) (f : Nat → Value) (hs : a.eval s = v) (hown : Row w base e size v n f)
    (g c : Nat) (hx : a.eval x = .slice (some ⟨g, 0, none⟩) 1 c) (hnews : ∀ j, j < size → w.cell? ⟨g, j, none⟩ = some (f (n * size + j))) (h1 : ∀ j, j < size → (f (n * size + j)).oneCell' = true)
    (hbytes : (n + 1) * bytes ≤ 140737488355328) (hn : n ≤ 4611686018427387904) (hbase : base ≤ w.heap.size)
    (h : ∀ g' cap w', Row w' base e size (.slice (some ⟨g', 0, none⟩) (n + 1) cap) (n + 1) f → w.grownBy w' v.ownBlock → (v.ownBlock = some g' ∨ g' = w.heap.size) → g' < w'.heap.size → wpList P ops Q rest (a.put o.dst (.slice (some ⟨g', 0, none⟩) (n + 1) cap)) w') : wpList P ops Q (o :: rest) a w := by
  refine wpList_append_lies w hgd s x t ho base e i z size bytes ht hi hz hsize hby hzs hsz v n _ hs hown ⟨g, 0, none⟩ 1 c ((List.range size).map (fun j => f (n * size + j))) hx (by simp) ?_ ?_ (by omega) (by unfold maxLen; omega) hbytes hbase _ rfl ?_
  · intro j u hu
    have hj : j < size := by
      have := (List.getElem?_eq_some_iff.1 hu).1
      simpa using this
    have : (⟨g, 0, none⟩ : Addr).add j = ⟨g, j, none⟩ := by
      unfold Addr.add
      by_cases h0 : j = 0
      · subst h0; rfl
      · rw [if_neg h0]; simp
    rw [this, hnews j hj]
    simp [hj] at hu
    rw [hu]
  · intro u hu
    obtain ⟨j, hj, rfl⟩ := List.mem_map.1 hu
    exact h1 j (by simpa using hj)
  · intro g' cap w' h2 h3 h4 h5
    refine h g' cap w' ?_ h3 h4 h5
    unfold Row
    rw [Nat.add_mul, Nat.one_mul, cellsTo_add]
    exact h2
/-- a row that lies elsewhere stays at an append -/
theorem Row.kept {v2 : Value} {n2 : Nat} {f2 : Nat → Value} {row : Option Nat} (h : Row w base e size v2 n2 f2) (hg : w.grownBy w' row) (hd : ∀ k, v2.ownBlock = some k → row ≠ some k) : Row w' base e size v2 n2 f2 := by
  refine ⟨h.1, ?_⟩
  rcases h.2 with h2 | ⟨g, cap, cur, hv, hg2, hh, r⟩
  · exact .inl h2
  · refine .inr ⟨g, cap, cur, hv, hg2, ?_, r⟩
    exact (hg.block g (Array.getElem?_eq_some_iff.1 hh).1 (fun q => hd g (by rw [hv]; rfl) q.symm)).trans hh
end
end Go.Ks
