/- Names: what the program's and the reference's test answer. Condition: the size of a string. -/
import Derived.Test.YthjllledhcfnhaaDoorSmallEq
import Derived.Lib.Strings
namespace Go.Proofs.YthjllledhcfnhaaDoor
open Go.RowKit Go.Lib Go.Ks

/-- byte number i of a string -/
def bt (s : ByteArray) (i : Nat) : Int := if h : i < s.size then ((s[i]'h).toNat : Int) else 0
theorem bt_at {s : ByteArray} {i : Nat} (h : i < s.size) : ((s[i]'h).toNat : Int) = bt s i := by unfold bt; rw [dif_pos h]
theorem bt_bd (s : ByteArray) (i : Nat) : 0 ≤ bt s i ∧ bt s i ≤ 255 := by
  unfold bt
  split
  · rename_i h
    have := (s[i]'h).toNat_lt
    omega
  · omega
theorem emptyB {s : ByteArray} (h : s.size = 0) : s.toList.isEmpty = true := by
  rw [Go.Lib.toList_data]
  have : s.data.toList.length = 0 := h
  rw [List.isEmpty_iff_length_eq_zero]; exact this
theorem fullB {s : ByteArray} (h : 1 ≤ s.size) : s.toList.isEmpty = false := by
  rw [Go.Lib.toList_data]
  have : s.data.toList.length = s.size := rfl
  cases e : s.data.toList with
  | nil => rw [e] at this; simp at this; omega
  | cons _ _ => rfl
def NameOk (s : ByteArray) : Prop := 1 ≤ s.size ∧ s.size ≤ 10 ∧ inB (bt s 0) 97 122 = true ∧ ∀ i, i < s.size → inB (bt s i) 97 122 = true ∨ inB (bt s i) 48 57 = true
open Classical in
noncomputable def nameB (s : ByteArray) : Bool := decide (NameOk s)
theorem nameB_no {s : ByteArray} (h : ¬ NameOk s) : nameB s = false := by simp [nameB, h]
theorem nameB_yes {s : ByteArray} (h : NameOk s) : nameB s = true := by simp [nameB, h]
theorem nameB_iff {s : ByteArray} : nameB s = true ↔ NameOk s := by simp [nameB]

theorem l01Small_eq (c : Int) (w : World) :
    Calls Tryd.prog 181 #[.int .u8 c] w fun e w' => e = .returned (.bool (inB c 97 122)) ∧ w = w' := by
  go_enter Tryd.func181, Tryd.ntmps181
  go_wp2
  all_goals go_ret
  all_goals exact ⟨ret_bool (inB_eq (by simp <;> omega)).symm, rfl⟩
theorem l01Digit_eq (c : Int) (w : World) :
    Calls Tryd.prog 182 #[.int .u8 c] w fun e w' => e = .returned (.bool (inB c 48 57)) ∧ w = w' := by
  go_enter Tryd.func182, Tryd.ntmps182
  go_wp2
  all_goals go_ret
  all_goals exact ⟨ret_bool (inB_eq (by simp <;> omega)).symm, rfl⟩

set_option maxHeartbeats 1000000 in
theorem l01Name_eq (s : ByteArray) (hs : s.size ≤ 9223372036854775807) (w : World) :
    Calls Tryd.prog 161 #[.string s] w fun e w' => e = .returned (.bool (nameB s)) ∧ w = w' := by
  have hs' : (s.size : Int) ≤ 9223372036854775807 := by omega
  by_cases h1 : 1 ≤ s.size
  case neg =>
    have E := Lib.hid (nameB_no (fun h : NameOk s => h1 h.1))
    have e0 : s.toList.isEmpty = true := emptyB (by omega)
    go_enter Tryd.func161, Tryd.ntmps161
    go_wp2_with fail
    go_ret
    exact ⟨ret_bool E.out.symm, rfl⟩
  have e0 : s.toList.isEmpty = false := fullB h1
  by_cases h2 : s.size ≤ 10
  case neg =>
    have E := Lib.hid (nameB_no (fun h : NameOk s => h2 h.2.1))
    go_enter Tryd.func161, Tryd.ntmps161
    go_wp2_with fail
    go_ret
    exact ⟨ret_bool E.out.symm, rfl⟩
  have hb0 := bt_at (s := s) (i := 0) (by omega)
  cases h3 : inB (bt s 0) 97 122
  · have E := Lib.hid (nameB_no (fun h : NameOk s => by rw [h.2.2.1] at h3; cases h3))
    go_enter Tryd.func161, Tryd.ntmps161
    go_wp2_with fail
    refine (l01Small_eq _ _).mono ?_
    rintro e w1 ⟨rfl, rfl⟩
    go_wp2_with fail
    go_ret
    exact ⟨ret_bool E.out.symm, rfl⟩
  have H3 := Lib.hid h3
  go_enter Tryd.func161, Tryd.ntmps161
  go_wp2_with fail
  refine (l01Small_eq _ _).mono ?_
  rintro e w1 ⟨rfl, rfl⟩
  go_wp2_with fail
  clear hb0 h3
  go_loop [3] (fun i => ∃ k : Nat, k ≤ s.size ∧ i = .int .i64 k ∧ ∀ j, j < k → inB (bt s j) 97 122 = true ∨ inB (bt s j) 48 57 = true) (fun i => s.size - (intOf i).toNat)
  case atStart => exact ⟨0, by omega, rfl, fun j hj => absurd hj (by omega)⟩
  case round =>
    obtain ⟨k, hk, rfl, hall⟩ := hrel
    have HALL := Lib.hid hall
    clear hall
    by_cases hlt : k < s.size
    · have hbk := bt_at hlt
      cases q1 : inB (bt s k) 97 122
      · cases q2 : inB (bt s k) 48 57
        · have E := Lib.hid (nameB_no (fun h : NameOk s => by rcases h.2.2.2 k hlt with h | h; rw [h] at q1; cases q1; rw [h] at q2; cases q2))
          go_wp2_with fail
          refine (l01Small_eq _ _).mono ?_
          rintro e w1 ⟨rfl, rfl⟩
          go_wp2_with fail
          refine (l01Digit_eq _ _).mono ?_
          rintro e w1 ⟨rfl, rfl⟩
          go_wp2_with fail
          go_ret
          exact ⟨ret_bool E.out.symm, rfl⟩
        · have HOK := Lib.hid (okAll HALL.out (.inr q2 : inB (bt s k) 97 122 = true ∨ inB (bt s k) 48 57 = true))
          go_wp2_with fail
          refine (l01Small_eq _ _).mono ?_
          rintro e w1 ⟨rfl, rfl⟩
          go_wp2_with fail
          refine (l01Digit_eq _ _).mono ?_
          rintro e w1 ⟨rfl, rfl⟩
          go_wp2_with fail
          go_round
          case rel => exact ⟨k + 1, by omega, by go_num, HOK.out⟩
          case measure => simp [intOf]; omega
      · have HOK := Lib.hid (okAll HALL.out (.inl q1 : inB (bt s k) 97 122 = true ∨ inB (bt s k) 48 57 = true))
        go_wp2_with fail
        refine (l01Small_eq _ _).mono ?_
        rintro e w1 ⟨rfl, rfl⟩
        go_wp2_with fail
        go_round
        case rel => exact ⟨k + 1, by omega, by go_num, HOK.out⟩
        case measure => simp [intOf]; omega
    · have E := Lib.hid (nameB_yes (s := s) ⟨h1, h2, H3.out, fun j hj => HALL.out j (by omega)⟩)
      go_wp2_with fail
      go_ret
      exact ⟨ret_bool E.out.symm, rfl⟩
theorem inB_lo {c lo hi : Int} (h : inB c lo hi = true) : lo ≤ c := (inB_iff.1 h).1
theorem inB_hi {c lo hi : Int} (h : inB c lo hi = true) : c ≤ hi := (inB_iff.1 h).2
set_option maxHeartbeats 2000000 in
theorem isName_eq (s : ByteArray) (hs : s.size ≤ 9223372036854775807) (w : World) :
    Calls Tryd.prog 125 #[.string s] w fun e w' => e = .returned (.bool (nameB s)) ∧ w = w' := by
  have hs' : (s.size : Int) ≤ 9223372036854775807 := by omega
  by_cases h1 : 1 ≤ s.size
  case neg =>
    have E := Lib.hid (nameB_no (fun h : NameOk s => h1 h.1))
    go_enter Tryd.func125, Tryd.ntmps125
    go_wp2_with fail
    go_ret
    exact ⟨ret_bool E.out.symm, rfl⟩
  by_cases h2 : s.size ≤ 10
  case neg =>
    have E := Lib.hid (nameB_no (fun h : NameOk s => h2 h.2.1))
    go_enter Tryd.func125, Tryd.ntmps125
    go_wp2_with fail
    go_ret
    exact ⟨ret_bool E.out.symm, rfl⟩
  have hb0 := bt_at (s := s) (i := 0) (by omega)
  by_cases h3 : inB (bt s 0) 97 122 = true
  case neg =>
    have E := Lib.hid (nameB_no (fun h : NameOk s => h3 h.2.2.1))
    have h4 : ¬ (97 ≤ bt s 0 ∧ bt s 0 ≤ 122) := fun h => h3 (inB_iff.2 h)
    clear h3
    generalize bt s 0 = c at *
    by_cases c1 : c < 97
    · go_enter Tryd.func125, Tryd.ntmps125
      go_wp2_with fail
      go_ret
      exact ⟨ret_bool E.out.symm, rfl⟩
    · have c2 : 122 < c := by omega
      go_enter Tryd.func125, Tryd.ntmps125
      go_wp2_with fail
      go_ret
      exact ⟨ret_bool E.out.symm, rfl⟩
  have H3 := Lib.hid h3
  have c1 := inB_lo h3
  have c2 := inB_hi h3
  clear h3
  go_enter Tryd.func125, Tryd.ntmps125
  go_wp2_with fail
  clear hb0 c1 c2
  go_loop [3] (fun i => ∃ k : Nat, k ≤ s.size ∧ i = .int .i64 k ∧ ∀ j, j < k → inB (bt s j) 97 122 = true ∨ inB (bt s j) 48 57 = true) (fun i => s.size - (intOf i).toNat)
  case atStart => exact ⟨0, by omega, rfl, fun j hj => absurd hj (by omega)⟩
  case round =>
    obtain ⟨k, hk, rfl, hall⟩ := hrel
    have HALL := Lib.hid hall
    clear hall
    by_cases hlt : k < s.size
    · have hbk := bt_at hlt
      by_cases q : inB (bt s k) 97 122 = true ∨ inB (bt s k) 48 57 = true
      · have HOK := Lib.hid (okAll HALL.out q)
        have q' : (97 ≤ bt s k ∧ bt s k ≤ 122) ∨ (48 ≤ bt s k ∧ bt s k ≤ 57) := q.imp inB_iff.1 inB_iff.1
        clear q
        by_cases c1 : 97 ≤ bt s k
        · have c2 : bt s k ≤ 122 := by omega
          clear q'
          go_wp2_with fail
          go_round
          case rel => exact ⟨k + 1, by omega, by go_num, HOK.out⟩
          case measure => simp [intOf]; omega
        · have c2 : 48 ≤ bt s k := by omega
          have c3 : bt s k ≤ 57 := by omega
          have c4 : bt s k < 97 := by omega
          clear q'
          go_wp2_with fail
          go_round
          case rel => exact ⟨k + 1, by omega, by go_num, HOK.out⟩
          case measure => simp [intOf]; omega
      · have E := Lib.hid (nameB_no (fun h : NameOk s => q (h.2.2.2 k hlt)))
        have q' : ¬ ((97 ≤ bt s k ∧ bt s k ≤ 122) ∨ (48 ≤ bt s k ∧ bt s k ≤ 57)) := fun h => q (h.imp inB_iff.2 inB_iff.2)
        clear q
        by_cases c1 : 97 ≤ bt s k
        · have c2 : 122 < bt s k := by omega
          have c3 : ¬ bt s k ≤ 57 := by omega
          have c5 : ¬ bt s k ≤ 122 := by omega
          have c4 : 48 ≤ bt s k := by omega
          clear q'
          go_wp2_with fail
          go_ret
          exact ⟨ret_bool E.out.symm, rfl⟩
        · have c4 : bt s k < 97 := by omega
          by_cases c2 : 48 ≤ bt s k
          · have c3 : ¬ bt s k ≤ 57 := by omega
            clear q'
            go_wp2_with fail
            go_ret
            exact ⟨ret_bool E.out.symm, rfl⟩
          · have c3 : bt s k < 48 := by omega
            clear q'
            go_wp2_with fail
            go_ret
            exact ⟨ret_bool E.out.symm, rfl⟩
    · have E := Lib.hid (nameB_yes (s := s) ⟨h1, h2, H3.out, fun j hj => HALL.out j (by omega)⟩)
      go_wp2_with fail
      go_ret
      exact ⟨ret_bool E.out.symm, rfl⟩
end Go.Proofs.YthjllledhcfnhaaDoor
