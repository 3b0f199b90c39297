/- Texts of numbers and of angles, by the reference and by the program. Conditions: numbers of 64 bits, angles of a turn; the library's table of powers of ten lies. -/
import Derived.Test.YthjllledhcfnhaaGreatDoorDec
import Derived.Lib.LaidTab
import Derived.Lib.AppendIntMem
import Derived.Lib.ItoaLen
import Derived.Shelf.LaysM
import Derived.Shelf.Strconv.Itoa3
import Derived.Shelf.Strconv.Itoa4
import Derived.Test.YthjllledhcfnhaaGreatDoorProg
namespace Go.Proofs
open Go.Shelf
def Tryz.laysM173_ren : Go.Shelf.Ren := ⟨fun | 173 => 80 | 246 => 110 | 283 => 139 | 284 => 140 | 285 => 141 | 286 => 142 | 129 => 165 | 317 => 164 | 318 => 166 | 319 => 167 | 320 => 168 | 337 => 175 | 338 => 176 | n => n, fun | 2 => 2 | 3 => 3 | 9 => 9 | 4 => 4 | 171 => 159 | 0 => 0 | 53 => 103 | 37 => 22 | 5 => 5 | 173 => 162 | 212 => 182 | 51 => 171 | 20 => 20 | 213 => 183 | 46 => 153 | 232 => 199 | 233 => 200 | n => n, fun | 17 => 3 | 18 => 8 | 19 => 9 | n => n⟩
theorem Tryz.laysM173 : Go.Proofs.LaysM.n173 Tryz.prog Tryz.laysM173_ren := {
  mixed := by kernel_rfl
  f129 := Tryz.func165.trans (congrArg some (by kernel_rfl))
  f173 := Tryz.func80.trans (congrArg some (by kernel_rfl))
  f246 := Tryz.func110.trans (congrArg some (by kernel_rfl))
  f283 := Tryz.func139.trans (congrArg some (by kernel_rfl))
  f284 := Tryz.func140.trans (congrArg some (by kernel_rfl))
  f285 := Tryz.func141.trans (congrArg some (by kernel_rfl))
  f286 := Tryz.func142.trans (congrArg some (by kernel_rfl))
  f317 := Tryz.func164.trans (congrArg some (by kernel_rfl))
  f318 := Tryz.func166.trans (congrArg some (by kernel_rfl))
  f319 := Tryz.func167.trans (congrArg some (by kernel_rfl))
  f320 := Tryz.func168.trans (congrArg some (by kernel_rfl))
  f337 := Tryz.func175.trans (congrArg some (by kernel_rfl))
  f338 := Tryz.func176.trans (congrArg some (by kernel_rfl))
  t0 := Tryz.underlying0
  a0 := Tryz.isAgg0
  z0 := Tryz.sizeOf0
  v0 := Tryz.zeroValue0
  t2 := Tryz.underlying2
  a2 := Tryz.isAgg2
  z2 := Tryz.sizeOf2
  v2 := Tryz.zeroValue2
  t3 := Tryz.underlying3
  a3 := Tryz.isAgg3
  z3 := Tryz.sizeOf3
  v3 := Tryz.zeroValue3
  t4 := Tryz.underlying4
  a4 := Tryz.isAgg4
  z4 := Tryz.sizeOf4
  v4 := Tryz.zeroValue4
  t5 := Tryz.underlying5
  a5 := Tryz.isAgg5
  z5 := Tryz.sizeOf5
  v5 := Tryz.zeroValue5
  t9 := Tryz.underlying9
  a9 := Tryz.isAgg9
  z9 := Tryz.sizeOf9
  v9 := Tryz.zeroValue9
  t20 := Tryz.underlying20
  a20 := Tryz.isAgg20
  z20 := Tryz.sizeOf20
  v20 := Tryz.zeroValue20
  t37 := Tryz.underlying22
  a37 := Tryz.isAgg22
  z37 := Tryz.sizeOf22
  v37 := Tryz.zeroValue22
  t46 := Tryz.underlying153
  a46 := Tryz.isAgg153
  z46 := Tryz.sizeOf153
  v46 := Tryz.zeroValue153
  t51 := Tryz.underlying171
  a51 := Tryz.isAgg171
  z51 := Tryz.sizeOf171
  v51 := Tryz.zeroValue171
  t53 := Tryz.underlying103
  a53 := Tryz.isAgg103
  z53 := Tryz.sizeOf103
  v53 := Tryz.zeroValue103
  t171 := Tryz.underlying159
  a171 := Tryz.isAgg159
  z171 := Tryz.sizeOf159
  v171 := Tryz.zeroValue159
  t173 := Tryz.underlying162
  a173 := Tryz.isAgg162
  z173 := Tryz.sizeOf162
  v173 := Tryz.zeroValue162
  t212 := Tryz.underlying182
  a212 := Tryz.isAgg182
  z212 := Tryz.sizeOf182
  v212 := Tryz.zeroValue182
  t213 := Tryz.underlying183
  a213 := Tryz.isAgg183
  z213 := Tryz.sizeOf183
  t232 := Tryz.underlying199
  a232 := Tryz.isAgg199
  z232 := Tryz.sizeOf199
  v232 := Tryz.zeroValue199
  t233 := Tryz.underlying200
  a233 := Tryz.isAgg200
  z233 := Tryz.sizeOf200
  v233 := Tryz.zeroValue200
  g17 := by kernel_rfl
  g18 := by kernel_rfl
  g19 := by kernel_rfl
  i0 := by kernel_rfl
  i2 := by kernel_rfl
  i3 := by kernel_rfl
  i4 := by kernel_rfl
  i5 := by kernel_rfl
  i9 := by kernel_rfl
  i20 := by kernel_rfl
  i37 := by kernel_rfl
  i46 := by kernel_rfl
  i51 := by kernel_rfl
  i53 := by kernel_rfl
  i171 := by kernel_rfl
  i173 := by kernel_rfl
  i212 := by kernel_rfl
  i232 := by kernel_rfl
  i233 := by kernel_rfl
  m17 := by kernel_rfl
  m18 := by kernel_rfl
  m19 := by kernel_rfl }
open Go.RowKit Go.Sort Go.Lib in
/-- strconv.FormatInt: "FormatInt returns the string representation of i in the given base": AT BASE 10: i's decimal numeral, for every int64. (LAID: no walk: one application.) -/
theorem Tryz.strconv_FormatInt_10 (n : Int) (h0 : -9223372036854775808 ≤ n) (h1 : n ≤ 9223372036854775807) (w : World) (htab : Lib.TabIs Tryz.prog w "internal/strconv.uint64pow10" .u64 Lib.pow10Tab) :
    Calls Tryz.prog 80 #[.int .i64 n, .int .i64 10] w fun e w' => e = .returned (.string ⟨(Lib.itoa n).toArray⟩) ∧ ∃ k os, w' = grow (w.drewN k) os := Any.strconv_FormatInt_10 Tryz.laysM173 n h0 h1 w htab
end Go.Proofs
namespace Go.Ks.Tx
open Go.RowKit Go.Lib
theorem decB_size {n : Int} (h : -9223372036854775808 ≤ n ∧ n ≤ 9223372036854775807) : (decB n).size ≤ 21 := by
  have := Lib.itoa_length_le n h.1 h.2
  unfold decB
  simpa [ByteArray.size] using this
/-- zeros ahead, up to three digits -/
def padB : Nat → ByteArray → ByteArray
  | 0, b => b
  | k + 1, b => padB k ((⟨#[48]⟩ : ByteArray) ++ b)
def pad3 (b : ByteArray) : ByteArray := padB (3 - b.size) b
theorem zero_size (b : ByteArray) : ((⟨#[48]⟩ : ByteArray) ++ b).size = b.size + 1 := by rw [ByteArray.size_append, Nat.add_comm]; rfl
theorem pad3_big {b : ByteArray} (h : 3 ≤ b.size) : pad3 b = b := by unfold pad3; rw [show 3 - b.size = 0 by omega]; rfl
theorem pad3_step {b : ByteArray} (h : b.size < 3) : pad3 b = pad3 ((⟨#[48]⟩ : ByteArray) ++ b) := by
  unfold pad3
  rw [zero_size, show 3 - b.size = (3 - (b.size + 1)) + 1 by omega]
  rfl
theorem padB_size : ∀ k (b : ByteArray), (padB k b).size = b.size + k
  | 0, b => rfl
  | k + 1, b => by
    unfold padB
    rw [padB_size k, zero_size]
    omega
theorem pad3_size {b : ByteArray} (h : b.size ≤ 21) : (pad3 b).size ≤ 21 := by
  unfold pad3
  rw [padB_size]
  omega
/-- the size of a text -/
def txS : Value → Nat | .string b => b.size | _ => 0
/-- the text of an angle -/
def angB (a : Int) : ByteArray := if a < 0 then (⟨#[45]⟩ : ByteArray) ++ decB (-a / 1000) ++ (⟨#[46]⟩ : ByteArray) ++ pad3 (decB (-a % 1000)) else (⟨#[]⟩ : ByteArray) ++ decB (a / 1000) ++ (⟨#[46]⟩ : ByteArray) ++ pad3 (decB (a % 1000))
theorem angB_neg {a : Int} (h : a < 0) : angB a = (⟨#[45]⟩ : ByteArray) ++ decB (-a / 1000) ++ (⟨#[46]⟩ : ByteArray) ++ pad3 (decB (-a % 1000)) := if_pos h
theorem angB_pos {a : Int} (h : ¬ a < 0) : angB a = (⟨#[]⟩ : ByteArray) ++ decB (a / 1000) ++ (⟨#[46]⟩ : ByteArray) ++ pad3 (decB (a % 1000)) := if_neg h
theorem angB_neg' {u : Nat} (h : 0 < u) : angB (-(u : Int)) = (⟨#[45]⟩ : ByteArray) ++ decB ((u : Int) / 1000) ++ (⟨#[46]⟩ : ByteArray) ++ pad3 (decB ((u : Int) % 1000)) := by rw [angB_neg (by omega), Int.neg_neg]
theorem angB_size {a : Int} (h : -9223372036854775807 ≤ a ∧ a ≤ 9223372036854775807) : (angB a).size ≤ 50 := by
  have one : ∀ x, (⟨#[x]⟩ : ByteArray).size = 1 := fun _ => rfl
  have nil : (⟨#[]⟩ : ByteArray).size = 0 := rfl
  by_cases q : a < 0
  · have h1 := decB_size (n := -a / 1000) (by omega)
    have h2 := pad3_size (decB_size (n := -a % 1000) (by omega))
    rw [angB_neg q, ByteArray.size_append, ByteArray.size_append, ByteArray.size_append, one, one]
    omega
  · have h1 := decB_size (n := a / 1000) (by omega)
    have h2 := pad3_size (decB_size (n := a % 1000) (by omega))
    rw [angB_pos q, ByteArray.size_append, ByteArray.size_append, ByteArray.size_append, one, nil]
    omega
end Go.Ks.Tx
namespace Go.Proofs.YthjllledhcfnhaaGreatDoor.Tx
open Go.RowKit Go.Lib Go.Ks Go.Ks.Tx
/-- the library's table of powers of ten lies -/
def Tab (w : World) : Prop := Lib.TabIs Tryz.prog w "internal/strconv.uint64pow10" .u64 Lib.pow10Tab
theorem Tab.below {w w' : World} (h : Tab w) (hb : Below w.heap.size w w') : Tab w' := by
  unfold Tab Lib.TabIs World.var? at *
  cases hg : Tryz.prog.globalNamed "internal/strconv.uint64pow10" with
  | none => simp [hg] at h
  | some g =>
    simp only [hg, Option.bind_some] at h ⊢
    have hlt : g < w.heap.size := by
      rcases Nat.lt_or_ge g w.heap.size with h' | h'
      · exact h'
      · rw [Array.getElem?_eq_none h'] at h; simp at h
    rw [hb.block g hlt]
    exact h
theorem decimal_any (n : Int) (h : -9223372036854775808 ≤ n ∧ n ≤ 9223372036854775807) (w : World) (hT : Tab w) :
    Calls Tryz.prog 42 #[.int .i64 n] w fun e w' => e = .returned (.string (decB n)) ∧ Below w.heap.size w w' := by
  go_enter Tryz.func42, Tryz.ntmps42
  go_wp2_with (go_at_call 80; refine (Tryz.strconv_FormatInt_10 n h.1 h.2 _ hT).mono ?_; rintro e w1 ⟨rfl, k, os, rfl⟩)
  go_ret
  exact ⟨rfl, below_grow _ _ (Nat.le_refl _) _ _⟩
end Go.Proofs.YthjllledhcfnhaaGreatDoor.Tx
