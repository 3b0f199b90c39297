/- Numbers read from texts, by the reference. Condition: the size of a string. -/
import Derived.Test.YthjllledhcfnhaaGreatDoorSmallEq
import Derived.Test.YthjllledhcfnhaaGreatDoorReadMath
import Derived.Lib.Strings
namespace Go.Ks.Tx
open Go.RowKit Go.Lib
/-- byte number i of a string -/
def bt (s : ByteArray) (i : Nat) : Int := if h : i < s.size then ((s[i]'h).toNat : Int) else 0
theorem bt_at {s : ByteArray} {i : Nat} (h : i < s.size) : ((s[i]'h).toNat : Int) = bt s i := by unfold bt; rw [dif_pos h]
theorem bt_bd (s : ByteArray) (i : Nat) : 0 ≤ bt s i ∧ bt s i ≤ 255 := by
  unfold bt
  split
  · rename_i h
    have := (s[i]'h).toNat_lt
    omega
  · omega
theorem list_len (s : ByteArray) : s.data.toList.length = s.size := rfl
theorem bt_list {s : ByteArray} {i : Nat} {b : UInt8} (h : s.data.toList[i]? = some b) : bt s i = (b.toNat : Int) := by
  have hi : i < s.size := by
    have := (List.getElem?_eq_some_iff.1 h).1
    simpa using this
  rw [← bt_at hi]
  have : s.data.toList[i]? = some (s[i]'hi) := by
    rw [Array.getElem?_toList]
    exact Array.getElem?_eq_getElem (xs := s.data) hi
  rw [h] at this
  injection this with this
  rw [this]
theorem list_bt {s : ByteArray} {i : Nat} (h : i < s.size) : ∃ b, s.data.toList[i]? = some b ∧ bt s i = (b.toNat : Int) := by
  have : s.data.toList[i]? = some (s[i]'h) := by
    rw [Array.getElem?_toList]
    exact Array.getElem?_eq_getElem (xs := s.data) h
  exact ⟨_, this, bt_list this⟩
theorem dg_in {b : UInt8} : isDg b ↔ inB (b.toNat : Int) 48 57 = true := by
  rw [inB_iff]; unfold isDg; omega
/-- where the digits begin -/
def Beg (s : ByteArray) (a : Nat) : Prop := (a = 1 ∧ 1 ≤ s.size ∧ bt s 0 = 45) ∨ (a = 0 ∧ (s.size = 0 ∨ bt s 0 ≠ 45))
theorem num_drop {s : ByteArray} {a : Nat} {n : Int} (ha : Beg s a) (h : IsNum s.data.toList n) : (∀ j, a ≤ j → j < s.size → inB (bt s j) 48 57 = true) ∧ a + 1 ≤ s.size ∧ s.size ≤ a + 18 ∧ (bt s a = 48 → s.size ≤ 1) := by
  obtain ⟨sg, t, e, hd, h1, h2, _, b, r, et, h0⟩ := num_look h
  have hlen : s.size = s.data.toList.length := rfl
  have hsg : a = (if sg then 1 else 0) := by
    rcases ha with ⟨rfl, _, hb⟩ | ⟨rfl, hb⟩
    · cases sg
      · exfalso
        rw [if_neg (by decide)] at e
        have := bt_list (s := s) (i := 0) (b := b) (by rw [e, et]; rfl)
        have hb2 := hd b (by rw [et]; simp)
        unfold isDg at hb2
        omega
      · rfl
    · cases sg
      · rfl
      · exfalso
        rw [if_pos rfl] at e
        have h45 := bt_list (s := s) (i := 0) (b := 45) (by rw [e]; rfl)
        rcases hb with hb | hb
        · rw [hlen, e] at hb; simp at hb
        · exact hb (by rw [h45]; decide)
  have hsz : s.size = t.length + a := by
    rw [hlen, e, hsg]
    cases sg <;> simp
  have hj : ∀ j, a ≤ j → s.data.toList[j]? = t[j - a]? := fun j hj => by
    rw [e, hsg]
    rw [hsg] at hj
    cases sg
    · simp
    · simp only [if_true] at hj ⊢
      obtain ⟨i, rfl⟩ : ∃ i, j = i + 1 := ⟨j - 1, by omega⟩
      simp
  refine ⟨fun j h3 h4 => ?_, by omega, by omega, fun h48 => ?_⟩
  · obtain ⟨c, hc, hc2⟩ := list_bt h4
    rw [hc2]
    rw [hj j h3] at hc
    exact dg_in.1 (hd c (List.mem_of_getElem? hc))
  · have hb := bt_list (s := s) (i := a) (b := b) (by rw [hj a (Nat.le_refl _), et]; simp)
    have h3 := h0 (by omega)
    rw [h3.1, if_neg (by decide)] at hsg
    rw [hsz, et, h3.2, hsg]
    simp
/-- the value of the first k digits from a on -/
def vN (s : ByteArray) (a : Nat) : Nat → Int
  | 0 => 0
  | k + 1 => 10 * vN s a k + (bt s (a + k) - 48)
theorem vN_bd {s : ByteArray} {a : Nat} : ∀ k, (∀ j, j < k → inB (bt s (a + j)) 48 57 = true) → 0 ≤ vN s a k ∧ vN s a k < (10 ^ k : Nat)
  | 0, _ => by simp [vN]
  | k + 1, h => by
    have ih := vN_bd k (fun j hj => h j (by omega))
    have hb := inB_iff.1 (h k (by omega))
    unfold vN
    have : (10 ^ (k + 1) : Nat) = 10 * 10 ^ k := by rw [Nat.pow_succ, Nat.mul_comm]
    rw [this]
    omega
theorem vN_17 {s : ByteArray} {a k : Nat} (h : ∀ j, j < k → inB (bt s (a + j)) 48 57 = true) (hk : k ≤ 17) : 0 ≤ vN s a k ∧ vN s a k < 100000000000000000 := by
  have h1 := vN_bd k h
  have h2 : 10 ^ k ≤ 10 ^ 17 := Nat.pow_le_pow_right (by decide) hk
  omega
theorem vN_18 {s : ByteArray} {a k : Nat} (h : ∀ j, j < k → inB (bt s (a + j)) 48 57 = true) (hk : k ≤ 18) : 0 ≤ vN s a k ∧ vN s a k < 1000000000000000000 := by
  have h1 := vN_bd k h
  have h2 : 10 ^ k ≤ 10 ^ 18 := Nat.pow_le_pow_right (by decide) hk
  omega
theorem vN_valD {s : ByteArray} {a : Nat} : ∀ k, a + k ≤ s.size → (∀ j, j < k → inB (bt s (a + j)) 48 57 = true) → vN s a k = (valD ((s.data.toList.drop a).take k) : Int)
  | 0, _, _ => by simp [vN, valD]
  | k + 1, hk, h => by
    have ih := vN_valD k (by omega) (fun j hj => h j (by omega))
    obtain ⟨b, hb, hb2⟩ := list_bt (s := s) (i := a + k) (by omega)
    have hd := inB_iff.1 (h k (by omega))
    rw [List.take_add_one, List.getElem?_drop, hb]
    simp only [Option.toList_some]
    rw [valD_snoc, vN, ih, hb2]
    omega
theorem num_back {s : ByteArray} {a : Nat} (ha : Beg s a) (h : ∀ j, j < s.size - a → inB (bt s (a + j)) 48 57 = true) (h1 : a + 1 ≤ s.size) (h2 : s.size ≤ a + 18) (h0 : bt s a = 48 → s.size ≤ 1) : IsNum s.data.toList (if a = 1 then -vN s a (s.size - a) else vN s a (s.size - a)) := by
  have hlen : s.size = s.data.toList.length := rfl
  have hv := vN_valD (s := s) (a := a) (s.size - a) (by omega) h
  rw [List.take_of_length_le (by rw [List.length_drop]; omega)] at hv
  have hd : ∀ b ∈ s.data.toList.drop a, isDg b := fun b hb => by
    obtain ⟨j, hj⟩ := List.getElem?_of_mem hb
    rw [List.getElem?_drop] at hj
    have hjl : a + j < s.size := by
      have := (List.getElem?_eq_some_iff.1 hj).1
      simpa using this
    have := h j (by omega)
    rw [bt_list hj] at this
    exact dg_in.2 this
  have hz : ∀ b r, s.data.toList.drop a = b :: r → b.toNat = 48 → s.size ≤ 1 := fun b r e hb => by
    refine h0 ?_
    have : s.data.toList[a]? = some b := by
      have h3 : (s.data.toList.drop a)[0]? = some b := by rw [e]; rfl
      rwa [List.getElem?_drop, Nat.add_zero] at h3
    rw [bt_list this]
    omega
  rcases ha with ⟨rfl, hs, hb⟩ | ⟨rfl, hb⟩
  · obtain ⟨c, hc, hc2⟩ := list_bt (s := s) (i := 0) (by omega)
    have hc45 : c = 45 := by
      apply UInt8.toNat_inj.1
      have : (45 : UInt8).toNat = 45 := rfl
      omega
    have hL : s.data.toList = 45 :: s.data.toList.drop 1 := by
      cases hq : s.data.toList with
      | nil => rw [hq] at hc; cases hc
      | cons x y =>
        rw [hq] at hc
        simp at hc
        rw [hc, hc45]
        rfl
    have := num_make (t := s.data.toList.drop 1) hd (by rw [List.length_drop]; omega) (by rw [List.length_drop]; omega) true (fun b r e hb => by have := hz b r e hb; omega)
    simp only [if_true] at this
    rw [← hL, ← hv] at this
    simpa using this
  · have := num_make (t := s.data.toList.drop 0) hd (by rw [List.length_drop]; omega) (by rw [List.length_drop]; omega) false (fun b r e hb => ⟨rfl, by
      have h3 := hz b r e hb
      have h4 : (s.data.toList.drop 0).length = s.size := by simp
      rw [e, List.length_cons] at h4
      exact List.eq_nil_of_length_eq_zero (by omega)⟩)
    simp only [Bool.false_eq_true, if_false] at this
    rw [← hv] at this
    simpa using this
end Go.Ks.Tx
namespace Go.Proofs.YthjllledhcfnhaaGreatDoor.Tx
open Go.RowKit Go.Lib Go.Ks Go.Ks.Tx
/-- what a reader of numbers hands back -/
def NumR (s : ByteArray) (e : Ending) : Prop := e = .returned (.tuple #[.int .i64 (numV s.data.toList), .bool (numOk s.data.toList)])
theorem numR_no {s : ByteArray} (h : ∀ n, ¬ IsNum s.data.toList n) : NumR s (.returned (.tuple #[.int .i64 0, .bool false])) := by
  unfold NumR
  rw [(num_no h).1, (num_no h).2]
theorem numR_yes {s : ByteArray} {n : Int} (h : IsNum s.data.toList n) : NumR s (.returned (.tuple #[.int .i64 n, .bool true])) := by
  unfold NumR
  rw [(num_yes h).1, (num_yes h).2]
end Go.Proofs.YthjllledhcfnhaaGreatDoor.Tx
