/- Texts of numbers and of angles, by the reference and by the program. Conditions: numbers of 64 bits, angles of a turn; the library's table of powers of ten lies. -/
import Derived.Test.YtikonccofaiceaaDoorDec
import Derived.Test.YtikonccofaiceaaDoorShelf
import Derived.Lib.LaidTab
import Derived.Lib.AppendIntMem
import Derived.Lib.ItoaLen
namespace Go.Ks
open Go.RowKit Go.Lib
theorem decB_size {n : Int} (h : -9223372036854775808 ≤ n ∧ n ≤ 9223372036854775807) : (decB n).size ≤ 21 := by
  have := Lib.itoa_length_le n h.1 h.2
  unfold decB
  simpa [ByteArray.size] using this
/-- zeros ahead, up to three digits -/
def padB : Nat → ByteArray → ByteArray
  | 0, b => b
  | k + 1, b => padB k ((⟨#[48]⟩ : ByteArray) ++ b)
def pad3 (b : ByteArray) : ByteArray := padB (3 - b.size) b
theorem zero_size (b : ByteArray) : ((⟨#[48]⟩ : ByteArray) ++ b).size = b.size + 1 := by rw [ByteArray.size_append, Nat.add_comm]; rfl
theorem pad3_big {b : ByteArray} (h : 3 ≤ b.size) : pad3 b = b := by unfold pad3; rw [show 3 - b.size = 0 by omega]; rfl
theorem pad3_step {b : ByteArray} (h : b.size < 3) : pad3 b = pad3 ((⟨#[48]⟩ : ByteArray) ++ b) := by
  unfold pad3
  rw [zero_size, show 3 - b.size = (3 - (b.size + 1)) + 1 by omega]
  rfl
theorem padB_size : ∀ k (b : ByteArray), (padB k b).size = b.size + k
  | 0, b => rfl
  | k + 1, b => by
    unfold padB
    rw [padB_size k, zero_size]
    omega
theorem pad3_size {b : ByteArray} (h : b.size ≤ 21) : (pad3 b).size ≤ 21 := by
  unfold pad3
  rw [padB_size]
  omega
/-- the size of a text -/
def txS : Value → Nat | .string b => b.size | _ => 0
/-- the text of an angle -/
def angB (a : Int) : ByteArray := if a < 0 then (⟨#[45]⟩ : ByteArray) ++ decB (-a / 1000) ++ (⟨#[46]⟩ : ByteArray) ++ pad3 (decB (-a % 1000)) else (⟨#[]⟩ : ByteArray) ++ decB (a / 1000) ++ (⟨#[46]⟩ : ByteArray) ++ pad3 (decB (a % 1000))
theorem angB_neg {a : Int} (h : a < 0) : angB a = (⟨#[45]⟩ : ByteArray) ++ decB (-a / 1000) ++ (⟨#[46]⟩ : ByteArray) ++ pad3 (decB (-a % 1000)) := if_pos h
theorem angB_pos {a : Int} (h : ¬ a < 0) : angB a = (⟨#[]⟩ : ByteArray) ++ decB (a / 1000) ++ (⟨#[46]⟩ : ByteArray) ++ pad3 (decB (a % 1000)) := if_neg h
theorem angB_neg' {u : Nat} (h : 0 < u) : angB (-(u : Int)) = (⟨#[45]⟩ : ByteArray) ++ decB ((u : Int) / 1000) ++ (⟨#[46]⟩ : ByteArray) ++ pad3 (decB ((u : Int) % 1000)) := by rw [angB_neg (by omega), Int.neg_neg]
theorem angB_size {a : Int} (h : -9223372036854775807 ≤ a ∧ a ≤ 9223372036854775807) : (angB a).size ≤ 50 := by
  have one : ∀ x, (⟨#[x]⟩ : ByteArray).size = 1 := fun _ => rfl
  have nil : (⟨#[]⟩ : ByteArray).size = 0 := rfl
  by_cases q : a < 0
  · have h1 := decB_size (n := -a / 1000) (by omega)
    have h2 := pad3_size (decB_size (n := -a % 1000) (by omega))
    rw [angB_neg q, ByteArray.size_append, ByteArray.size_append, ByteArray.size_append, one, one]
    omega
  · have h1 := decB_size (n := a / 1000) (by omega)
    have h2 := pad3_size (decB_size (n := a % 1000) (by omega))
    rw [angB_pos q, ByteArray.size_append, ByteArray.size_append, ByteArray.size_append, one, nil]
    omega
end Go.Ks
namespace Go.Proofs.YtikonccofaiceaaDoor
open Go.RowKit Go.Lib Go.Ks
/-- the library's table of powers of ten lies -/
def Tab (w : World) : Prop := Lib.TabIs Tryd.prog w "internal/strconv.uint64pow10" .u64 Lib.pow10Tab
theorem Tab.below {w w' : World} (h : Tab w) (hb : Below w.heap.size w w') : Tab w' := by
  unfold Tab Lib.TabIs World.var? at *
  cases hg : Tryd.prog.globalNamed "internal/strconv.uint64pow10" with
  | none => simp [hg] at h
  | some g =>
    simp only [hg, Option.bind_some] at h ⊢
    have hlt : g < w.heap.size := by
      rcases Nat.lt_or_ge g w.heap.size with h' | h'
      · exact h'
      · rw [Array.getElem?_eq_none h'] at h; simp at h
    rw [hb.block g hlt]
    exact h
theorem decimal_any (n : Int) (h : -9223372036854775808 ≤ n ∧ n ≤ 9223372036854775807) (w : World) (hT : Tab w) :
    Calls Tryd.prog 52 #[.int .i64 n] w fun e w' => e = .returned (.string (decB n)) ∧ Below w.heap.size w w' := by
  go_enter Tryd.func52, Tryd.ntmps52
  go_wp2_with (go_at_call 91; refine (Tryd.strconv_FormatInt_10 n h.1 h.2 _ hT).mono ?_; rintro e w1 ⟨rfl, k, os, rfl⟩)
  go_ret
  exact ⟨rfl, below_grow _ _ (Nat.le_refl _) _ _⟩
set_option maxHeartbeats 1000000 in
theorem padded_any (n : Int) (h : -9223372036854775808 ≤ n ∧ n ≤ 9223372036854775807) (w : World) (hT : Tab w) :
    Calls Tryd.prog 110 #[.int .i64 n, .int .i64 3] w fun e w' => e = .returned (.string (pad3 (decB n))) ∧ Below w.heap.size w w' := by
  have hz := fun b => zero_size b
  go_enter Tryd.func110, Tryd.ntmps110
  go_wp2_with fail
  refine (decimal_any _ h _ hT).mono ?_
  rintro e w1 ⟨rfl, hb1⟩
  go_wp2_with fail
  go_loopw [5] (fun v wr => ∃ b : ByteArray, v = .string b ∧ b.size ≤ 21 ∧ pad3 b = pad3 (decB n) ∧ Below w.heap.size w wr) (fun v _ => 3 - txS v)
  case atStart => exact ⟨_, rfl, decB_size h, rfl, hb1⟩
  case round =>
    obtain ⟨b, rfl, hbs, hp, hbl⟩ := hrel
    have HP := Lib.hid hp
    clear hp
    by_cases q : b.size < 3
    · have q' : (b.size : Int) < 3 := by omega
      have ES := Lib.hid (pad3_step q)
      go_wp2_with fail
      go_roundw
      case rel => exact ⟨_, rfl, by rw [hz]; omega, ES.out.symm.trans HP.out, hbl⟩
      case measure => simp only [txS]; rw [zero_size]; omega
    · have q' : ¬ (b.size : Int) < 3 := by omega
      have E := Lib.hid (pad3_big (b := b) (by omega))
      go_wp2_with fail
      go_ret
      exact ⟨by rw [← HP.out, E.out] <;> rfl, hbl⟩
set_option maxRecDepth 100000 in
set_option maxHeartbeats 1000000 in
theorem l02Text_any (a : Int) (h : -359999 ≤ a ∧ a ≤ 359999) (w : World) :
    Calls Tryd.prog 107 #[.int .i64 a] w fun e w' => e = .returned (.string (angB a)) ∧ Below w.heap.size w w' := by
  have hz := fun b => zero_size b
  obtain ⟨h1, h2⟩ := h
  by_cases q : a < 0
  · obtain ⟨u, hu⟩ := Int.eq_ofNat_of_zero_le (by omega : 0 ≤ -a)
    obtain rfl : a = -(u : Int) := by omega
    clear hu
    have E := Lib.hid (angB_neg' (u := u) (by omega))
    have d1 := decB_size (n := (u : Int) / 1000) (by omega)
    have D2 := Lib.hid (decB_size (n := (u : Int) % 1000) (by omega))
    have D3 := Lib.hid (pad3_size D2.out)
    have m0 : 0 ≤ (u : Int) % 1000 := by omega
    have m1 : (u : Int) % 1000 < 1000 := by omega
    go_enter Tryd.func107, Tryd.ntmps107
    go_wp2_with fail
    refine (l01Dec_any _ (by omega) _).mono ?_
    rintro e w1 ⟨rfl, hb1⟩
    go_wp2_with fail
    go_loopw [4] (fun v wr => ∃ b : ByteArray, v = .string b ∧ b.size ≤ 21 ∧ pad3 b = pad3 (decB ((u : Int) % 1000)) ∧ Below w.heap.size w wr) (fun v _ => 3 - txS v)
    case atStart => exact ⟨_, rfl, D2.out, rfl, hb1⟩
    case round =>
      obtain ⟨b, rfl, hbs, hp, hbl⟩ := hrel
      have HP := Lib.hid hp
      clear hp
      by_cases q : b.size < 3
      · have q' : (b.size : Int) < 3 := by omega
        have ES := Lib.hid (pad3_step q)
        go_wp2_with fail
        go_roundw
        case rel => exact ⟨_, rfl, by rw [hz]; omega, ES.out.symm.trans HP.out, hbl⟩
        case measure => simp only [txS]; rw [zero_size]; omega
      · have q' : ¬ (b.size : Int) < 3 := by omega
        have EB := Lib.hid (pad3_big (b := b) (by omega))
        go_wp2_with fail
        refine (l01Dec_any _ (by omega) _).mono ?_
        rintro e w5 ⟨rfl, hb5⟩
        have hb6 := hbl.trans (hb5.mono hbl.size)
        go_wp2_with fail
        go_ret
        exact ⟨by rw [E.out, ← HP.out, EB.out] <;> rfl, hb6⟩
  · have E := Lib.hid (angB_pos q)
    have d1 := decB_size (n := a / 1000) (by omega)
    have D2 := Lib.hid (decB_size (n := a % 1000) (by omega))
    have m0 : 0 ≤ a % 1000 := by omega
    have m1 : a % 1000 < 1000 := by omega
    go_enter Tryd.func107, Tryd.ntmps107
    go_wp2_with fail
    refine (l01Dec_any _ (by omega) _).mono ?_
    rintro e w1 ⟨rfl, hb1⟩
    go_wp2_with fail
    go_loopw [4] (fun v wr => ∃ b : ByteArray, v = .string b ∧ b.size ≤ 21 ∧ pad3 b = pad3 (decB (a % 1000)) ∧ Below w.heap.size w wr) (fun v _ => 3 - txS v)
    case atStart => exact ⟨_, rfl, D2.out, rfl, hb1⟩
    case round =>
      obtain ⟨b, rfl, hbs, hp, hbl⟩ := hrel
      have HP := Lib.hid hp
      clear hp
      by_cases q : b.size < 3
      · have q' : (b.size : Int) < 3 := by omega
        have ES := Lib.hid (pad3_step q)
        go_wp2_with fail
        go_roundw
        case rel => exact ⟨_, rfl, by rw [hz]; omega, ES.out.symm.trans HP.out, hbl⟩
        case measure => simp only [txS]; rw [zero_size]; omega
      · have q' : ¬ (b.size : Int) < 3 := by omega
        have EB := Lib.hid (pad3_big (b := b) (by omega))
        go_wp2_with fail
        refine (l01Dec_any _ (by omega) _).mono ?_
        rintro e w5 ⟨rfl, hb5⟩
        have hb6 := hbl.trans (hb5.mono hbl.size)
        go_wp2_with fail
        go_ret
        exact ⟨by rw [E.out, ← HP.out, EB.out] <;> rfl, hb6⟩
set_option maxRecDepth 100000 in
set_option maxHeartbeats 1000000 in
theorem angleText_any (a : Int) (h : -359999 ≤ a ∧ a ≤ 359999) (w : World) (hT : Tab w) :
    Calls Tryd.prog 76 #[.int .i64 a] w fun e w' => e = .returned (.string (angB a)) ∧ Below w.heap.size w w' := by
  have hi : inB a (-359999) 359999 = true := inB_iff.2 h
  have HT := Lib.hid hT
  obtain ⟨h1, h2⟩ := h
  clear hT
  by_cases q : a < 0
  · obtain ⟨u, hu⟩ := Int.eq_ofNat_of_zero_le (by omega : 0 ≤ -a)
    obtain rfl : a = -(u : Int) := by omega
    clear hu
    have E := Lib.hid (angB_neg' (u := u) (by omega))
    have d1 := decB_size (n := (u : Int) / 1000) (by omega)
    have d3 := pad3_size (decB_size (n := (u : Int) % 1000) (by omega))
    have m0 : 0 ≤ (u : Int) % 1000 := by omega
    have m1 : (u : Int) % 1000 < 1000 := by omega
    go_enter Tryd.func76, Tryd.ntmps76
    go_wp2_with fail
    refine (within_eq _ _ _ _).mono ?_
    rintro e w1 ⟨rfl, rfl⟩
    go_wp2_with fail
    refine (decimal_any _ (by omega) _ HT.out).mono ?_
    rintro e w5 ⟨rfl, hb5⟩
    go_wp2_with fail
    refine (padded_any _ (by omega) _ (HT.out.below hb5)).mono ?_
    rintro e w6 ⟨rfl, hb6⟩
    have hb7 := hb5.trans (hb6.mono hb5.size)
    go_wp2_with fail
    go_ret
    exact ⟨by rw [E.out] <;> rfl, hb7⟩
  · have E := Lib.hid (angB_pos q)
    have d1 := decB_size (n := a / 1000) (by omega)
    have d3 := pad3_size (decB_size (n := a % 1000) (by omega))
    have m0 : 0 ≤ a % 1000 := by omega
    have m1 : a % 1000 < 1000 := by omega
    go_enter Tryd.func76, Tryd.ntmps76
    go_wp2_with fail
    refine (within_eq _ _ _ _).mono ?_
    rintro e w1 ⟨rfl, rfl⟩
    go_wp2_with fail
    refine (decimal_any _ (by omega) _ HT.out).mono ?_
    rintro e w5 ⟨rfl, hb5⟩
    go_wp2_with fail
    refine (padded_any _ (by omega) _ (HT.out.below hb5)).mono ?_
    rintro e w6 ⟨rfl, hb6⟩
    have hb7 := hb5.trans (hb6.mono hb5.size)
    go_wp2_with fail
    go_ret
    exact ⟨by rw [E.out] <;> rfl, hb7⟩
end Go.Proofs.YtikonccofaiceaaDoor
