/- The reference's search for the fewest projectors: plain law. Conditions: at most six projectors. -/
import Derived.Test.YthjllledhcfnhaaDoorFewLaw
namespace Go.Ks
/-- the choices that go on from ch with d more indices, from k on, c indices ahead -/
def lv : Nat → List Nat → Nat → Nat → List (List Nat)
  | 0, ch, _, _ => [ch]
  | d + 1, ch, k, c => (List.range c).flatMap (fun j => lv d (ch ++ [k + j]) (k + j + 1) (c - j - 1))
def chainB (n : Nat) : List (List Nat) → Bool
  | [] => true
  | [a] => nextL n a == none
  | a :: b :: r => nextL n a == some b && chainB n (b :: r)
theorem lv_chain : ∀ n, n < 7 → ∀ m, m < n + 1 → ((lv m [] 0 n).head? == some (List.range m)) = true ∧ chainB n (lv m [] 0 n) = true := by decide +kernel
/-- a walk along choices: what is found, the tries left, whether they ran out -/
def scan (L : List Nat → Bool) : List (List Nat) → Nat → Option (List Nat) × Nat × Bool
  | [], B => (none, B, false)
  | _ :: _, 0 => (none, 0, true)
  | a :: r, B + 1 => if L a = true then (some a, B, false) else scan L r B
theorem next_len {n : Nat} {a b : List Nat} (h : nextL n a = some b) : b.length = a.length := by
  unfold nextL at h
  cases hp : piv n a.length a a.length with
  | none => rw [hp] at h; cases h
  | some i =>
    rw [hp] at h
    simp only [Option.map_some, Option.some.injEq] at h
    rw [← h]; simp
theorem scan_srch {n : Nat} {L : List Nat → Bool} : ∀ (r : List (List Nat)) (a : List Nat) (B : Nat), chainB n (a :: r) = true →
    srch n L B a = match scan L (a :: r) B with
      | (some c, _, _) => some c
      | (none, _, true) => none
      | (none, B', false) => srch n L B' (List.range (a.length + 1))
  | r, a, 0, _ => by cases r <;> rfl
  | [], a, B + 1, h => by
    have hn : nextL n a = none := by simpa [chainB] using h
    cases q : L a
    · rw [srch_more q hn]; simp [scan, q]
    · rw [srch_hit q]; simp [scan, q]
  | b :: r, a, B + 1, h => by
    have h2 : nextL n a = some b ∧ chainB n (b :: r) = true := by simpa [chainB] using h
    cases q : L a
    · rw [srch_next q h2.1, scan_srch r b B h2.2, next_len h2.1]
      have : scan L (a :: b :: r) (B + 1) = scan L (b :: r) B := by simp [scan, q]
      rw [this]
    · rw [srch_hit q]; simp [scan, q]
theorem scan_append {L : List Nat → Bool} (y : List (List Nat)) : ∀ (x : List (List Nat)) (B : Nat), scan L (x ++ y) B = match scan L x B with
      | (none, B', false) => scan L y B'
      | r => r
  | [], B => rfl
  | a :: x, 0 => rfl
  | a :: x, B + 1 => by
    cases q : L a
    · have h1 : scan L (a :: x ++ y) (B + 1) = scan L (x ++ y) B := by simp [scan, q]
      have h2 : scan L (a :: x) (B + 1) = scan L x B := by simp [scan, q]
      rw [h1, h2, scan_append y x B]
    · have h1 : scan L (a :: x ++ y) (B + 1) = (some a, B, false) := by simp [scan, q]
      have h2 : scan L (a :: x) (B + 1) = (some a, B, false) := by simp [scan, q]
      rw [h1, h2]
theorem lv_zero (d : Nat) (ch : List Nat) (k : Nat) : lv (d + 1) ch k 0 = [] := rfl
theorem lv_step (d : Nat) (ch : List Nat) (k c : Nat) : lv (d + 1) ch k (c + 1) = lv d (ch ++ [k]) (k + 1) c ++ lv (d + 1) ch (k + 1) c := by
  show (List.range (c + 1)).flatMap _ = _ ++ (List.range c).flatMap _
  rw [List.range_succ_eq_map, List.flatMap_cons, List.flatMap_map]
  congr 1
  congr 1
  funext j
  show lv d (ch ++ [k + (j + 1)]) (k + (j + 1) + 1) (c + 1 - (j + 1) - 1) = _
  rw [show k + (j + 1) = k + 1 + j by omega, show c + 1 - (j + 1) - 1 = c - j - 1 by omega]
theorem lv_all : ∀ n, n < 7 → lv n [] 0 n = [List.range n] := by decide +kernel
theorem scan_le (L : List Nat → Bool) : ∀ (x : List (List Nat)) (B : Nat), (scan L x B).2.1 ≤ B
  | [], _ => Nat.le_refl _
  | _ :: _, 0 => Nat.le_refl _
  | a :: r, B + 1 => by
    cases q : L a
    · have : scan L (a :: r) (B + 1) = scan L r B := by simp [scan, q]
      rw [this]; exact Nat.le_succ_of_le (scan_le L r B)
    · have : scan L (a :: r) (B + 1) = (some a, B, false) := by simp [scan, q]
      rw [this]; exact Nat.le_succ B
theorem scan_full (L : List Nat → Bool) : ∀ (x : List (List Nat)) (B : Nat), (scan L x B).2.2 = true → (scan L x B).1 = none
  | [], _, _ => rfl
  | _ :: _, 0, _ => rfl
  | a :: r, B + 1, h => by
    cases q : L a
    · have e : scan L (a :: r) (B + 1) = scan L r B := by simp [scan, q]
      rw [e] at h ⊢; exact scan_full L r B h
    · have e : scan L (a :: r) (B + 1) = (some a, B, false) := by simp [scan, q]
      rw [e] at h; cases h
theorem lv_mem : ∀ (d : Nat) (ch : List Nat) (k c : Nat) (a : List Nat), a ∈ lv d ch k c → a.length = ch.length + d
  | 0, ch, k, c, a, h => by simp [lv] at h; rw [h]; rfl
  | d + 1, ch, k, c, a, h => by
    simp only [lv, List.mem_flatMap] at h
    obtain ⟨j, _, h⟩ := h
    have := lv_mem d _ _ _ a h
    simp at this; omega
theorem scan_mem (L : List Nat → Bool) : ∀ (x : List (List Nat)) (B : Nat) (a : List Nat), (scan L x B).1 = some a → a ∈ x
  | [], _, _, h => by cases h
  | _ :: _, 0, _, h => by cases h
  | b :: r, B + 1, a, h => by
    cases q : L b
    · have e : scan L (b :: r) (B + 1) = scan L r B := by simp [scan, q]
      rw [e] at h; exact List.mem_cons_of_mem _ (scan_mem L r B a h)
    · have e : scan L (b :: r) (B + 1) = (some b, B, false) := by simp [scan, q]
      rw [e] at h; injection h with h; subst h; exact List.mem_cons_self
end Go.Ks
