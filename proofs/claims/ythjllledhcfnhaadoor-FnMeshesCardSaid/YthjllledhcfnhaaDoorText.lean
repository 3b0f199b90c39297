/- Texts of numbers and of angles, by the reference and by the program. Conditions: numbers of 64 bits, angles of a turn; the library's table of powers of ten lies. -/
import Derived.Test.YthjllledhcfnhaaDoorDec
import Derived.Test.YthjllledhcfnhaaDoorShelf
import Derived.Lib.LaidTab
import Derived.Lib.AppendIntMem
import Derived.Lib.ItoaLen
namespace Go.Ks
open Go.RowKit Go.Lib
theorem decB_size {n : Int} (h : -9223372036854775808 ≤ n ∧ n ≤ 9223372036854775807) : (decB n).size ≤ 21 := by
  have := Lib.itoa_length_le n h.1 h.2
  unfold decB
  simpa [ByteArray.size] using this
/-- zeros ahead, up to three digits -/
def padB : Nat → ByteArray → ByteArray
  | 0, b => b
  | k + 1, b => padB k ((⟨#[48]⟩ : ByteArray) ++ b)
def pad3 (b : ByteArray) : ByteArray := padB (3 - b.size) b
theorem zero_size (b : ByteArray) : ((⟨#[48]⟩ : ByteArray) ++ b).size = b.size + 1 := by rw [ByteArray.size_append, Nat.add_comm]; rfl
theorem pad3_big {b : ByteArray} (h : 3 ≤ b.size) : pad3 b = b := by unfold pad3; rw [show 3 - b.size = 0 by omega]; rfl
theorem pad3_step {b : ByteArray} (h : b.size < 3) : pad3 b = pad3 ((⟨#[48]⟩ : ByteArray) ++ b) := by
  unfold pad3
  rw [zero_size, show 3 - b.size = (3 - (b.size + 1)) + 1 by omega]
  rfl
theorem padB_size : ∀ k (b : ByteArray), (padB k b).size = b.size + k
  | 0, b => rfl
  | k + 1, b => by
    unfold padB
    rw [padB_size k, zero_size]
    omega
theorem pad3_size {b : ByteArray} (h : b.size ≤ 21) : (pad3 b).size ≤ 21 := by
  unfold pad3
  rw [padB_size]
  omega
/-- the size of a text -/
def txS : Value → Nat | .string b => b.size | _ => 0
/-- the text of an angle -/
def angB (a : Int) : ByteArray := if a < 0 then (⟨#[45]⟩ : ByteArray) ++ decB (-a / 1000) ++ (⟨#[46]⟩ : ByteArray) ++ pad3 (decB (-a % 1000)) else (⟨#[]⟩ : ByteArray) ++ decB (a / 1000) ++ (⟨#[46]⟩ : ByteArray) ++ pad3 (decB (a % 1000))
theorem angB_neg {a : Int} (h : a < 0) : angB a = (⟨#[45]⟩ : ByteArray) ++ decB (-a / 1000) ++ (⟨#[46]⟩ : ByteArray) ++ pad3 (decB (-a % 1000)) := if_pos h
theorem angB_pos {a : Int} (h : ¬ a < 0) : angB a = (⟨#[]⟩ : ByteArray) ++ decB (a / 1000) ++ (⟨#[46]⟩ : ByteArray) ++ pad3 (decB (a % 1000)) := if_neg h
theorem angB_neg' {u : Nat} (h : 0 < u) : angB (-(u : Int)) = (⟨#[45]⟩ : ByteArray) ++ decB ((u : Int) / 1000) ++ (⟨#[46]⟩ : ByteArray) ++ pad3 (decB ((u : Int) % 1000)) := by rw [angB_neg (by omega), Int.neg_neg]
theorem angB_size {a : Int} (h : -9223372036854775807 ≤ a ∧ a ≤ 9223372036854775807) : (angB a).size ≤ 50 := by
  have one : ∀ x, (⟨#[x]⟩ : ByteArray).size = 1 := fun _ => rfl
  have nil : (⟨#[]⟩ : ByteArray).size = 0 := rfl
  by_cases q : a < 0
  · have h1 := decB_size (n := -a / 1000) (by omega)
    have h2 := pad3_size (decB_size (n := -a % 1000) (by omega))
    rw [angB_neg q, ByteArray.size_append, ByteArray.size_append, ByteArray.size_append, one, one]
    omega
  · have h1 := decB_size (n := a / 1000) (by omega)
    have h2 := pad3_size (decB_size (n := a % 1000) (by omega))
    rw [angB_pos q, ByteArray.size_append, ByteArray.size_append, ByteArray.size_append, one, nil]
    omega
end Go.Ks
namespace Go.Proofs.YthjllledhcfnhaaDoor
open Go.RowKit Go.Lib Go.Ks
/-- the library's table of powers of ten lies -/
def Tab (w : World) : Prop := Lib.TabIs Tryd.prog w "internal/strconv.uint64pow10" .u64 Lib.pow10Tab
theorem Tab.below {w w' : World} (h : Tab w) (hb : Below w.heap.size w w') : Tab w' := by
  unfold Tab Lib.TabIs World.var? at *
  cases hg : Tryd.prog.globalNamed "internal/strconv.uint64pow10" with
  | none => simp [hg] at h
  | some g =>
    simp only [hg, Option.bind_some] at h ⊢
    have hlt : g < w.heap.size := by
      rcases Nat.lt_or_ge g w.heap.size with h' | h'
      · exact h'
      · rw [Array.getElem?_eq_none h'] at h; simp at h
    rw [hb.block g hlt]
    exact h
theorem decimal_any (n : Int) (h : -9223372036854775808 ≤ n ∧ n ≤ 9223372036854775807) (w : World) (hT : Tab w) :
    Calls Tryd.prog 105 #[.int .i64 n] w fun e w' => e = .returned (.string (decB n)) ∧ Below w.heap.size w w' := by
  go_enter Tryd.func105, Tryd.ntmps105
  go_wp2_with (go_at_call 142; refine (Tryd.strconv_FormatInt_10 n h.1 h.2 _ hT).mono ?_; rintro e w1 ⟨rfl, k, os, rfl⟩)
  go_ret
  exact ⟨rfl, below_grow _ _ (Nat.le_refl _) _ _⟩
end Go.Proofs.YthjllledhcfnhaaDoor
