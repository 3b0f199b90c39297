/- The reference's search for the fewest projectors finds what the program's finds: plain law. Conditions: at most six projectors. -/
import Derived.Test.YthjllledhcfnhaaDoorCover
import Derived.Test.YthjllledhcfnhaaDoorFewDfs
namespace Go.Ks
def BoolC (l : Nat → Bool) : Nat → Value := fun j => .bool (l j)
/-- some of the first q chosen reaches spot i -/
def rowLit (row : Nat → Nat → Bool) (ch : List Nat) (i : Nat) : Nat → Bool
  | 0 => false
  | q + 1 => rowLit row ch i q || row (ch.getD q 0) i
/-- the first i spots that can be lit are lit -/
def enB (lit : Nat → Bool) (row : Nat → Nat → Bool) (ch : List Nat) : Nat → Bool
  | 0 => true
  | i + 1 => enB lit row ch i && (!lit i || rowLit row ch i ch.length)
theorem enB_false {lit : Nat → Bool} {row : Nat → Nat → Bool} {ch : List Nat} {i : Nat} (h1 : lit i = true) (h2 : rowLit row ch i ch.length = false) : ∀ d, enB lit row ch (i + 1 + d) = false
  | 0 => by show (enB lit row ch i && (!lit i || rowLit row ch i ch.length)) = false; rw [h1, h2]; simp
  | d + 1 => by
    show (enB lit row ch (i + 1 + d) && _) = false
    rw [enB_false h1 h2 d]; rfl
theorem enB_more {lit : Nat → Bool} {row : Nat → Nat → Bool} {ch : List Nat} {i : Nat} (h0 : enB lit row ch i = true) (h : lit i = false ∨ rowLit row ch i ch.length = true) : enB lit row ch (i + 1) = true := by
  show (enB lit row ch i && (!lit i || rowLit row ch i ch.length)) = true
  rcases h with h | h
  · rw [h0, h]; rfl
  · rw [h0, h]; simp
theorem enB_of {lit : Nat → Bool} {row : Nat → Nat → Bool} {ch : List Nat} : ∀ N, (∀ i, i < N → lit i = true → rowLit row ch i ch.length = true) → enB lit row ch N = true
  | 0, _ => rfl
  | N + 1, h => by
    refine enB_more (enB_of N (fun i hi => h i (by omega))) ?_
    cases q : lit N
    · exact .inl rfl
    · exact .inr (h N (by omega) q)
theorem enB_at {lit : Nat → Bool} {row : Nat → Nat → Bool} {ch : List Nat} : ∀ N, enB lit row ch N = true → ∀ i, i < N → lit i = true → rowLit row ch i ch.length = true
  | 0, _, i, hi, _ => absurd hi (by omega)
  | N + 1, h, i, hi, hl => by
    have h2 : (enB lit row ch N && (!lit N || rowLit row ch N ch.length)) = true := h
    rw [Bool.and_eq_true] at h2
    by_cases e : i = N
    · subst e
      rw [hl] at h2
      simpa using h2.2
    · exact enB_at N h2.1 i (by omega) hl
/-- one size of choices -/
theorem srch_lv {n m : Nat} (hn : n < 7) (hm : m < n + 1) (L : List Nat → Bool) (B : Nat) :
    srch n L B (List.range m) = match scan L (lv m [] 0 n) B with
      | (some c, _, _) => some c
      | (none, _, true) => none
      | (none, B', false) => srch n L B' (List.range (m + 1)) := by
  obtain ⟨h1, h2⟩ := lv_chain n hn m hm
  cases q : lv m [] 0 n with
  | nil => rw [q] at h1; exact absurd h1 (by simp)
  | cons a r =>
    rw [q] at h1 h2
    have e : a = List.range m := by simpa using h1
    subst e
    have := scan_srch (n := n) (L := L) r (List.range m) B h2
    rw [List.length_range] at this
    exact this
theorem scan_last {n : Nat} (hn : n < 7) {L : List Nat → Bool} (hL : L (List.range n) = true) (B : Nat) : (scan L (lv n [] 0 n) B).1 = none → (scan L (lv n [] 0 n) B).2.2 = true := by
  rw [lv_all n hn]
  cases B with
  | zero => intro _; rfl
  | succ B =>
    have : scan L [List.range n] (B + 1) = (some (List.range n), B, false) := by simp [scan, hL]
    rw [this]
    intro h
    cases h
end Go.Ks
namespace Go.Proofs.YthjllledhcfnhaaDoor
open Go.RowKit Go.Lib Go.Ks
section
variable {n : Nat} {l : Nat → ProjectorD} {st : Int}
def litS (n : Nat) (l : Nat → ProjectorD) (st : Int) : Nat → Bool := fun i => decide (0 < cntTo l (spX st i) (spY st i) n)
def rowS (l : Nat → ProjectorD) (st : Int) : Nat → Nat → Bool := fun k i => decide (0 < rawP (l k) (spX st i) (spY st i))
theorem rowLit_eq (ch : List Nat) (i : Nat) : ∀ q, rowLit (rowS l st) ch i q = litTo l ch (spX st i) (spY st i) q
  | 0 => rfl
  | q + 1 => by
    show (rowLit (rowS l st) ch i q || _) = (litTo l ch (spX st i) (spY st i) q || _)
    rw [rowLit_eq ch i q]
    rfl
theorem enL_eq (n : Nat) (l : Nat → ProjectorD) (st : Int) (ch : List Nat) : enB (litS n l st) (rowS l st) ch (nSp st) = fewL n l st ch := by
  rw [Bool.eq_iff_iff]
  constructor
  · intro h
    refine litAll_of _ (fun j hj => ?_)
    have := enB_at _ h _ (nedI_lt _ j hj) (decide_eq_true (ned_lit _ j hj))
    rw [rowLit_eq] at this
    exact this
  · intro h
    refine enB_of _ (fun i hi hl => ?_)
    obtain ⟨j, hj, e⟩ := ned_has (nSp st) i hi (of_decide_eq_true hl)
    have := litAll_at _ h j hj
    unfold nedX nedY at this
    rw [e] at this
    rw [rowLit_eq]
    exact this
end
end Go.Proofs.YthjllledhcfnhaaDoor
