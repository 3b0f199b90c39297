/- Numbers read from texts, by the reference. Condition: the size of a string. -/
import Derived.Test.YtikonccofaiceaaDoorSmallEq
import Derived.Test.YtikonccofaiceaaDoorReadMath
import Derived.Lib.Strings
namespace Go.Ks
open Go.RowKit Go.Lib
/-- byte number i of a string -/
def bt (s : ByteArray) (i : Nat) : Int := if h : i < s.size then ((s[i]'h).toNat : Int) else 0
theorem bt_at {s : ByteArray} {i : Nat} (h : i < s.size) : ((s[i]'h).toNat : Int) = bt s i := by unfold bt; rw [dif_pos h]
theorem bt_bd (s : ByteArray) (i : Nat) : 0 ≤ bt s i ∧ bt s i ≤ 255 := by
  unfold bt
  split
  · rename_i h
    have := (s[i]'h).toNat_lt
    omega
  · omega
theorem list_len (s : ByteArray) : s.data.toList.length = s.size := rfl
theorem bt_list {s : ByteArray} {i : Nat} {b : UInt8} (h : s.data.toList[i]? = some b) : bt s i = (b.toNat : Int) := by
  have hi : i < s.size := by
    have := (List.getElem?_eq_some_iff.1 h).1
    simpa using this
  rw [← bt_at hi]
  have : s.data.toList[i]? = some (s[i]'hi) := by
    rw [Array.getElem?_toList]
    exact Array.getElem?_eq_getElem (xs := s.data) hi
  rw [h] at this
  injection this with this
  rw [this]
theorem list_bt {s : ByteArray} {i : Nat} (h : i < s.size) : ∃ b, s.data.toList[i]? = some b ∧ bt s i = (b.toNat : Int) := by
  have : s.data.toList[i]? = some (s[i]'h) := by
    rw [Array.getElem?_toList]
    exact Array.getElem?_eq_getElem (xs := s.data) h
  exact ⟨_, this, bt_list this⟩
theorem dg_in {b : UInt8} : isDg b ↔ inB (b.toNat : Int) 48 57 = true := by
  rw [inB_iff]; unfold isDg; omega
/-- where the digits begin -/
def Beg (s : ByteArray) (a : Nat) : Prop := (a = 1 ∧ 1 ≤ s.size ∧ bt s 0 = 45) ∨ (a = 0 ∧ (s.size = 0 ∨ bt s 0 ≠ 45))
theorem num_drop {s : ByteArray} {a : Nat} {n : Int} (ha : Beg s a) (h : IsNum s.data.toList n) : (∀ j, a ≤ j → j < s.size → inB (bt s j) 48 57 = true) ∧ a + 1 ≤ s.size ∧ s.size ≤ a + 18 ∧ (bt s a = 48 → s.size ≤ 1) := by
  obtain ⟨sg, t, e, hd, h1, h2, _, b, r, et, h0⟩ := num_look h
  have hlen : s.size = s.data.toList.length := rfl
  have hsg : a = (if sg then 1 else 0) := by
    rcases ha with ⟨rfl, _, hb⟩ | ⟨rfl, hb⟩
    · cases sg
      · exfalso
        rw [if_neg (by decide)] at e
        have := bt_list (s := s) (i := 0) (b := b) (by rw [e, et]; rfl)
        have hb2 := hd b (by rw [et]; simp)
        unfold isDg at hb2
        omega
      · rfl
    · cases sg
      · rfl
      · exfalso
        rw [if_pos rfl] at e
        have h45 := bt_list (s := s) (i := 0) (b := 45) (by rw [e]; rfl)
        rcases hb with hb | hb
        · rw [hlen, e] at hb; simp at hb
        · exact hb (by rw [h45]; decide)
  have hsz : s.size = t.length + a := by
    rw [hlen, e, hsg]
    cases sg <;> simp
  have hj : ∀ j, a ≤ j → s.data.toList[j]? = t[j - a]? := fun j hj => by
    rw [e, hsg]
    rw [hsg] at hj
    cases sg
    · simp
    · simp only [if_true] at hj ⊢
      obtain ⟨i, rfl⟩ : ∃ i, j = i + 1 := ⟨j - 1, by omega⟩
      simp
  refine ⟨fun j h3 h4 => ?_, by omega, by omega, fun h48 => ?_⟩
  · obtain ⟨c, hc, hc2⟩ := list_bt h4
    rw [hc2]
    rw [hj j h3] at hc
    exact dg_in.1 (hd c (List.mem_of_getElem? hc))
  · have hb := bt_list (s := s) (i := a) (b := b) (by rw [hj a (Nat.le_refl _), et]; simp)
    have h3 := h0 (by omega)
    rw [h3.1, if_neg (by decide)] at hsg
    rw [hsz, et, h3.2, hsg]
    simp
/-- the value of the first k digits from a on -/
def vN (s : ByteArray) (a : Nat) : Nat → Int
  | 0 => 0
  | k + 1 => 10 * vN s a k + (bt s (a + k) - 48)
theorem vN_bd {s : ByteArray} {a : Nat} : ∀ k, (∀ j, j < k → inB (bt s (a + j)) 48 57 = true) → 0 ≤ vN s a k ∧ vN s a k < (10 ^ k : Nat)
  | 0, _ => by simp [vN]
  | k + 1, h => by
    have ih := vN_bd k (fun j hj => h j (by omega))
    have hb := inB_iff.1 (h k (by omega))
    unfold vN
    have : (10 ^ (k + 1) : Nat) = 10 * 10 ^ k := by rw [Nat.pow_succ, Nat.mul_comm]
    rw [this]
    omega
theorem vN_17 {s : ByteArray} {a k : Nat} (h : ∀ j, j < k → inB (bt s (a + j)) 48 57 = true) (hk : k ≤ 17) : 0 ≤ vN s a k ∧ vN s a k < 100000000000000000 := by
  have h1 := vN_bd k h
  have h2 : 10 ^ k ≤ 10 ^ 17 := Nat.pow_le_pow_right (by decide) hk
  omega
theorem vN_18 {s : ByteArray} {a k : Nat} (h : ∀ j, j < k → inB (bt s (a + j)) 48 57 = true) (hk : k ≤ 18) : 0 ≤ vN s a k ∧ vN s a k < 1000000000000000000 := by
  have h1 := vN_bd k h
  have h2 : 10 ^ k ≤ 10 ^ 18 := Nat.pow_le_pow_right (by decide) hk
  omega
theorem vN_valD {s : ByteArray} {a : Nat} : ∀ k, a + k ≤ s.size → (∀ j, j < k → inB (bt s (a + j)) 48 57 = true) → vN s a k = (valD ((s.data.toList.drop a).take k) : Int)
  | 0, _, _ => by simp [vN, valD]
  | k + 1, hk, h => by
    have ih := vN_valD k (by omega) (fun j hj => h j (by omega))
    obtain ⟨b, hb, hb2⟩ := list_bt (s := s) (i := a + k) (by omega)
    have hd := inB_iff.1 (h k (by omega))
    rw [List.take_add_one, List.getElem?_drop, hb]
    simp only [Option.toList_some]
    rw [valD_snoc, vN, ih, hb2]
    omega
theorem num_back {s : ByteArray} {a : Nat} (ha : Beg s a) (h : ∀ j, j < s.size - a → inB (bt s (a + j)) 48 57 = true) (h1 : a + 1 ≤ s.size) (h2 : s.size ≤ a + 18) (h0 : bt s a = 48 → s.size ≤ 1) : IsNum s.data.toList (if a = 1 then -vN s a (s.size - a) else vN s a (s.size - a)) := by
  have hlen : s.size = s.data.toList.length := rfl
  have hv := vN_valD (s := s) (a := a) (s.size - a) (by omega) h
  rw [List.take_of_length_le (by rw [List.length_drop]; omega)] at hv
  have hd : ∀ b ∈ s.data.toList.drop a, isDg b := fun b hb => by
    obtain ⟨j, hj⟩ := List.getElem?_of_mem hb
    rw [List.getElem?_drop] at hj
    have hjl : a + j < s.size := by
      have := (List.getElem?_eq_some_iff.1 hj).1
      simpa using this
    have := h j (by omega)
    rw [bt_list hj] at this
    exact dg_in.2 this
  have hz : ∀ b r, s.data.toList.drop a = b :: r → b.toNat = 48 → s.size ≤ 1 := fun b r e hb => by
    refine h0 ?_
    have : s.data.toList[a]? = some b := by
      have h3 : (s.data.toList.drop a)[0]? = some b := by rw [e]; rfl
      rwa [List.getElem?_drop, Nat.add_zero] at h3
    rw [bt_list this]
    omega
  rcases ha with ⟨rfl, hs, hb⟩ | ⟨rfl, hb⟩
  · obtain ⟨c, hc, hc2⟩ := list_bt (s := s) (i := 0) (by omega)
    have hc45 : c = 45 := by
      apply UInt8.toNat_inj.1
      have : (45 : UInt8).toNat = 45 := rfl
      omega
    have hL : s.data.toList = 45 :: s.data.toList.drop 1 := by
      cases hq : s.data.toList with
      | nil => rw [hq] at hc; cases hc
      | cons x y =>
        rw [hq] at hc
        simp at hc
        rw [hc, hc45]
        rfl
    have := num_make (t := s.data.toList.drop 1) hd (by rw [List.length_drop]; omega) (by rw [List.length_drop]; omega) true (fun b r e hb => by have := hz b r e hb; omega)
    simp only [if_true] at this
    rw [← hL, ← hv] at this
    simpa using this
  · have := num_make (t := s.data.toList.drop 0) hd (by rw [List.length_drop]; omega) (by rw [List.length_drop]; omega) false (fun b r e hb => ⟨rfl, by
      have h3 := hz b r e hb
      have h4 : (s.data.toList.drop 0).length = s.size := by simp
      rw [e, List.length_cons] at h4
      exact List.eq_nil_of_length_eq_zero (by omega)⟩)
    simp only [Bool.false_eq_true, if_false] at this
    rw [← hv] at this
    simpa using this
end Go.Ks
namespace Go.Proofs.YtikonccofaiceaaDoor
open Go.RowKit Go.Lib Go.Ks
theorem digit_eq (c : Int) (w : World) :
    Calls Tryd.prog 119 #[.int .u8 c] w fun e w' => e = .returned (.bool (inB c 48 57)) ∧ w = w' := by
  go_enter Tryd.func119, Tryd.ntmps119
  go_wp2
  all_goals go_ret
  all_goals exact ⟨ret_bool (inB_eq (by simp <;> omega)).symm, rfl⟩
/-- what a reader of numbers hands back -/
def NumR (s : ByteArray) (e : Ending) : Prop := e = .returned (.tuple #[.int .i64 (numV s.data.toList), .bool (numOk s.data.toList)])
theorem numR_no {s : ByteArray} (h : ∀ n, ¬ IsNum s.data.toList n) : NumR s (.returned (.tuple #[.int .i64 0, .bool false])) := by
  unfold NumR
  rw [(num_no h).1, (num_no h).2]
theorem numR_yes {s : ByteArray} {n : Int} (h : IsNum s.data.toList n) : NumR s (.returned (.tuple #[.int .i64 n, .bool true])) := by
  unfold NumR
  rw [(num_yes h).1, (num_yes h).2]
set_option maxRecDepth 100000 in
set_option maxHeartbeats 2000000 in
theorem l01Number_eq (s : ByteArray) (hs : s.size ≤ 9223372036854775807) (w : World) :
    Calls Tryd.prog 94 #[.string s] w fun e w' => NumR s e ∧ w = w' := by
  have hs' : (s.size : Int) ≤ 9223372036854775807 := by omega
  by_cases h1 : 1 ≤ s.size
  case neg =>
    have E := Lib.hid (numR_no (s := s) (fun n h => by have := (num_drop (a := 0) (.inr ⟨rfl, .inl (by omega)⟩) h).2.1; omega))
    have h1' : ¬ 0 < s.size := by omega
    have h1'' : s.size = 0 := by omega
    go_enter Tryd.func94, Tryd.ntmps94
    go_wp2_with fail
    go_ret2
    exact ⟨E.out, rfl⟩
  have hb0 := bt_at (s := s) (i := 0) (by omega)
  by_cases q : bt s 0 = 45
  · have BEG := Lib.hid (show Beg s 1 from .inl ⟨rfl, h1, q⟩)
    have qb : (bt s 0 == 45) = true := by simp [q]
    clear q
    by_cases hz1 : s.size = 1
    · have E := Lib.hid (numR_no (s := s) (fun n h => by have := (num_drop BEG.out h).2.1; omega))
      have hz : ((s.size : Int) == 1) = true := beq_iff_eq.2 (show (s.size : Int) = 1 by omega)
      clear hz1
      go_enter Tryd.func94, Tryd.ntmps94
      go_wp2_with fail
      go_ret2
      exact ⟨E.out, rfl⟩
    have hb1 := bt_at (s := s) (i := 1) (by omega)
    have hz : ((s.size : Int) == 1) = false := beq_eq_false_iff_ne.2 (show (s.size : Int) ≠ 1 by omega)
    have hw : IntKind.i64.wrap ((s.size : Int) - 1) = (s.size : Int) - 1 := by rw [IntKind.wrap_i64]; omega
    by_cases h18 : s.size ≤ 19
    case neg =>
      have E := Lib.hid (numR_no (s := s) (fun n h => by have := (num_drop BEG.out h).2.2.1; omega))
      have h18d : decide (18 < (s.size : Int) - 1) = true := decide_eq_true (by omega)
      go_enter Tryd.func94, Tryd.ntmps94
      go_wp2_with fail
      go_ret2
      exact ⟨E.out, rfl⟩
    have h18d : decide (18 < (s.size : Int) - 1) = false := decide_eq_false (by omega)
    have h1d : decide (1 < (s.size : Int)) = true := decide_eq_true (by omega)
    by_cases q0 : bt s 1 = 48
    · have E := Lib.hid (numR_no (s := s) (fun n h => by have := (num_drop BEG.out h).2.2.2 q0; omega))
      have q0b : (bt s 1 == 48) = true := by simp [q0]
      clear q0
      go_enter Tryd.func94, Tryd.ntmps94
      go_wp2_with fail
      go_ret2
      exact ⟨E.out, rfl⟩
    have HB := Lib.hid (show bt s 1 = 48 → s.size ≤ 1 from fun h => absurd h q0)
    have q0b : (bt s 1 == 48) = false := by simp [q0]
    clear q0
    go_enter Tryd.func94, Tryd.ntmps94
    go_wp2_with fail
    clear hb0 hb1 q0b h1d h18d hz hw qb
    go_loop [5, 6] (fun n i => ∃ k : Nat, 1 + k ≤ s.size ∧ i = .int .i64 (((1 + k : Nat) : Nat) : Int) ∧ n = .int .i64 (vN s 1 k) ∧ ∀ j, j < k → inB (bt s (1 + j)) 48 57 = true) (fun _ i => s.size - (intOf i).toNat)
    case atStart => exact ⟨0, by omega, rfl, rfl, fun j hj => by omega⟩
    case round =>
      obtain ⟨k, hk, rfl, rfl, hall⟩ := hrel
      have HALL := Lib.hid hall
      clear hall
      have kk : 1 + k ≤ 19 := by omega
      by_cases hlt : 1 + k < s.size
      · have hbk := bt_at hlt
        obtain ⟨v0, v1⟩ := vN_17 HALL.out (by omega)
        obtain ⟨bb0, bb1⟩ := bt_bd s (1 + k)
        cases q2 : inB (bt s (1 + k)) 48 57
        · have E := Lib.hid (numR_no (s := s) (fun n h => by have := (num_drop BEG.out h).1 (1 + k) (by omega) hlt; rw [this] at q2; cases q2))
          go_wp2_with fail
          refine (digit_eq _ _).mono ?_
          rintro e w1 ⟨rfl, rfl⟩
          go_wp2_with fail
          go_ret2
          exact ⟨E.out, rfl⟩
        · obtain ⟨d0, d1⟩ := inB_iff.1 q2
          have HB2 := Lib.hid q2
          obtain ⟨B, hB⟩ : ∃ B, bt s (1 + k) = B := ⟨_, rfl⟩
          obtain ⟨V, hV⟩ : ∃ V, vN s 1 k = V := ⟨_, rfl⟩
          rw [hB] at hbk bb0 bb1 d0 d1 q2
          rw [hV] at v0 v1
          rw [hV]
          have HV := Lib.hid hV
          have HBB := Lib.hid hB
          clear hV hB
          have wr0 : IntKind.u8.wrap (B - 48) = B - 48 := by rw [IntKind.wrap_u8]; omega
          have wr1 : IntKind.i64.wrap (B - 48) = B - 48 := by rw [IntKind.wrap_i64]; omega
          have wr2 : IntKind.i64.wrap (10 * V) = 10 * V := by rw [IntKind.wrap_i64]; omega
          have wr3 : IntKind.i64.wrap (10 * V + (B - 48)) = 10 * V + (B - 48) := by rw [IntKind.wrap_i64]; omega
          go_wp2_with fail
          refine (digit_eq _ _).mono ?_
          rintro e w1 ⟨rfl, rfl⟩
          go_wp2_with fail
          go_round
          case rel => exact ⟨k + 1, by omega, by go_num, by rw [vN, HV.out, HBB.out], fun j hj => by by_cases e : j = k; subst e; exact HB2.out; exact HALL.out j (by omega)⟩
          case measure => simp [intOf]; omega
      · have hks : k = s.size - 1 := by omega
        have E := Lib.hid (numR_yes (num_back BEG.out (fun j hj => HALL.out j (by omega)) (by omega) (by omega) HB.out))
        rw [if_pos rfl, ← hks] at E
        obtain ⟨v0, v1⟩ := vN_18 HALL.out (by omega)
        have wr1 : IntKind.i64.wrap (-vN s 1 k) = -vN s 1 k := by rw [IntKind.wrap_i64]; omega
        have HKS := Lib.hid hks
        clear hks
        go_wp2_with fail
        go_ret2
        exact ⟨E.out, rfl⟩
  · have BEG := Lib.hid (show Beg s 0 from .inr ⟨rfl, .inr q⟩)
    have qb : (bt s 0 == 45) = false := by simp [q]
    have qd := Lib.hid q
    clear q
    have hz : ((s.size : Int) == 0) = false := beq_eq_false_iff_ne.2 (show (s.size : Int) ≠ 0 by omega)
    by_cases h18 : s.size ≤ 18
    case neg =>
      have E := Lib.hid (numR_no (s := s) (fun n h => by have := (num_drop BEG.out h).2.2.1; omega))
      have h18d : decide (18 < (s.size : Int)) = true := decide_eq_true (by omega)
      go_enter Tryd.func94, Tryd.ntmps94
      go_wp2_with fail
      go_ret2
      exact ⟨E.out, rfl⟩
    have h18d : decide (18 < (s.size : Int)) = false := decide_eq_false (by omega)
    by_cases q0 : bt s 0 = 48 ∧ 1 < s.size
    · have E := Lib.hid (numR_no (s := s) (fun n h => by have := (num_drop BEG.out h).2.2.2 q0.1; omega))
      have h1d : decide (1 < (s.size : Int)) = true := decide_eq_true (by omega)
      have q0b : (bt s 0 == 48) = true := by simp [q0.1]
      clear q0
      go_enter Tryd.func94, Tryd.ntmps94
      go_wp2_with fail
      go_ret2
      exact ⟨E.out, rfl⟩
    have HB := Lib.hid (show bt s 0 = 48 → s.size ≤ 1 from fun h => Nat.not_lt.1 (fun hh => q0 ⟨h, hh⟩))
    have q0' : ((bt s 0 == 48) = false) ∨ (((bt s 0 == 48) = true) ∧ decide (1 < (s.size : Int)) = false) := by
      by_cases e : bt s 0 = 48
      · exact .inr ⟨by simp [e], decide_eq_false (by omega)⟩
      · exact .inl (by simp [e])
    clear q0
    rcases q0' with q0 | ⟨q0, q1⟩
    all_goals
      go_enter Tryd.func94, Tryd.ntmps94
      go_wp2_with fail
      clear hb0 h18d hz qb q0
      go_loop [5, 6] (fun n i => ∃ k : Nat, k ≤ s.size ∧ i = .int .i64 (k : Int) ∧ n = .int .i64 (vN s 0 k) ∧ ∀ j, j < k → inB (bt s (0 + j)) 48 57 = true) (fun _ i => s.size - (intOf i).toNat)
      case atStart => exact ⟨0, by omega, rfl, rfl, fun j hj => by omega⟩
      case round =>
        obtain ⟨k, hk, rfl, rfl, hall⟩ := hrel
        have HALL := Lib.hid hall
        clear hall
        have kk : k ≤ 19 := by omega
        by_cases hlt : k < s.size
        · have hbk := bt_at hlt
          obtain ⟨v0, v1⟩ := vN_17 HALL.out (by omega)
          obtain ⟨bb0, bb1⟩ := bt_bd s (k)
          cases q2 : inB (bt s (k)) 48 57
          · have E := Lib.hid (numR_no (s := s) (fun n h => by have := (num_drop BEG.out h).1 (k) (by omega) hlt; rw [this] at q2; cases q2))
            go_wp2_with fail
            refine (digit_eq _ _).mono ?_
            rintro e w1 ⟨rfl, rfl⟩
            go_wp2_with fail
            go_ret2
            exact ⟨E.out, rfl⟩
          · obtain ⟨d0, d1⟩ := inB_iff.1 q2
            have HB2 := Lib.hid q2
            obtain ⟨B, hB⟩ : ∃ B, bt s (k) = B := ⟨_, rfl⟩
            obtain ⟨V, hV⟩ : ∃ V, vN s 0 k = V := ⟨_, rfl⟩
            rw [hB] at hbk bb0 bb1 d0 d1 q2
            rw [hV] at v0 v1
            rw [hV]
            have HV := Lib.hid hV
            have HBB := Lib.hid hB
            clear hV hB
            have wr0 : IntKind.u8.wrap (B - 48) = B - 48 := by rw [IntKind.wrap_u8]; omega
            have wr1 : IntKind.i64.wrap (B - 48) = B - 48 := by rw [IntKind.wrap_i64]; omega
            have wr2 : IntKind.i64.wrap (10 * V) = 10 * V := by rw [IntKind.wrap_i64]; omega
            have wr3 : IntKind.i64.wrap (10 * V + (B - 48)) = 10 * V + (B - 48) := by rw [IntKind.wrap_i64]; omega
            go_wp2_with fail
            refine (digit_eq _ _).mono ?_
            rintro e w1 ⟨rfl, rfl⟩
            go_wp2_with fail
            go_round
            case rel => exact ⟨k + 1, by omega, by go_num, by rw [vN, Nat.zero_add, HV.out, HBB.out], fun j hj => by by_cases e : j = k; subst e; rw [Nat.zero_add]; exact HB2.out; exact HALL.out j (by omega)⟩
            case measure => simp [intOf]; omega
        · have hks : k = s.size - 0 := by omega
          have E := Lib.hid (numR_yes (num_back BEG.out (fun j hj => HALL.out j (by omega)) (by omega) (by omega) HB.out))
          rw [if_neg (by decide), ← hks] at E
          obtain ⟨v0, v1⟩ := vN_18 HALL.out (by omega)
          have HKS := Lib.hid hks
          clear hks
          go_wp2_with fail
          go_ret2
          exact ⟨E.out, rfl⟩
end Go.Proofs.YtikonccofaiceaaDoor
