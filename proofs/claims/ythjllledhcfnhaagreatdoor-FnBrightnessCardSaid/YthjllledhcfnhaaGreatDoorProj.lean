/- Projectors: what the tests of the program and of the reference answer. Conditions: the sizes of strings; the slice reads as projectors. -/
import Derived.Laws.Cover1
import Derived.Test.YthjllledhcfnhaaGreatDoorSmallEq
import Derived.Lib.Strings
namespace Go.Proofs.YthjllledhcfnhaaGreatDoor
open Go.RowKit Go.Lib Go.Ks

/-- byte number i of a string -/
def bt (s : ByteArray) (i : Nat) : Int := if h : i < s.size then ((s[i]'h).toNat : Int) else 0
theorem bt_at {s : ByteArray} {i : Nat} (h : i < s.size) : ((s[i]'h).toNat : Int) = bt s i := by unfold bt; rw [dif_pos h]
theorem bt_bd (s : ByteArray) (i : Nat) : 0 ≤ bt s i ∧ bt s i ≤ 255 := by
  unfold bt
  split
  · rename_i h
    have := (s[i]'h).toNat_lt
    omega
  · omega
theorem emptyB {s : ByteArray} (h : s.size = 0) : s.toList.isEmpty = true := by
  rw [Go.Lib.toList_data]
  have : s.data.toList.length = 0 := h
  rw [List.isEmpty_iff_length_eq_zero]; exact this
theorem fullB {s : ByteArray} (h : 1 ≤ s.size) : s.toList.isEmpty = false := by
  rw [Go.Lib.toList_data]
  have : s.data.toList.length = s.size := rfl
  cases e : s.data.toList with
  | nil => rw [e] at this; simp at this; omega
  | cons _ _ => rfl
def NameOk (s : ByteArray) : Prop := 1 ≤ s.size ∧ s.size ≤ 10 ∧ inB (bt s 0) 97 122 = true ∧ ∀ i, i < s.size → inB (bt s i) 97 122 = true ∨ inB (bt s i) 48 57 = true
open Classical in
noncomputable def nameB (s : ByteArray) : Bool := decide (NameOk s)
theorem nameB_no {s : ByteArray} (h : ¬ NameOk s) : nameB s = false := by simp [nameB, h]
theorem nameB_yes {s : ByteArray} (h : NameOk s) : nameB s = true := by simp [nameB, h]
theorem nameB_iff {s : ByteArray} : nameB s = true ↔ NameOk s := by simp [nameB]

theorem inB_lo {c lo hi : Int} (h : inB c lo hi = true) : lo ≤ c := (inB_iff.1 h).1
theorem inB_hi {c lo hi : Int} (h : inB c lo hi = true) : c ≤ hi := (inB_iff.1 h).2
set_option maxHeartbeats 2000000 in
theorem isName_eq (s : ByteArray) (hs : s.size ≤ 9223372036854775807) (w : World) :
    Calls Tryz.prog 96 #[.string s] w fun e w' => e = .returned (.bool (nameB s)) ∧ w = w' := by
  have hs' : (s.size : Int) ≤ 9223372036854775807 := by omega
  by_cases h1 : 1 ≤ s.size
  case neg =>
    have E := Lib.hid (nameB_no (fun h : NameOk s => h1 h.1))
    go_enter Tryz.func96, Tryz.ntmps96
    go_wp2_with fail
    go_ret
    exact ⟨ret_bool E.out.symm, rfl⟩
  by_cases h2 : s.size ≤ 10
  case neg =>
    have E := Lib.hid (nameB_no (fun h : NameOk s => h2 h.2.1))
    go_enter Tryz.func96, Tryz.ntmps96
    go_wp2_with fail
    go_ret
    exact ⟨ret_bool E.out.symm, rfl⟩
  have hb0 := bt_at (s := s) (i := 0) (by omega)
  by_cases h3 : inB (bt s 0) 97 122 = true
  case neg =>
    have E := Lib.hid (nameB_no (fun h : NameOk s => h3 h.2.2.1))
    have h4 : ¬ (97 ≤ bt s 0 ∧ bt s 0 ≤ 122) := fun h => h3 (inB_iff.2 h)
    clear h3
    generalize bt s 0 = c at *
    by_cases c1 : c < 97
    · go_enter Tryz.func96, Tryz.ntmps96
      go_wp2_with fail
      go_ret
      exact ⟨ret_bool E.out.symm, rfl⟩
    · have c2 : 122 < c := by omega
      go_enter Tryz.func96, Tryz.ntmps96
      go_wp2_with fail
      go_ret
      exact ⟨ret_bool E.out.symm, rfl⟩
  have H3 := Lib.hid h3
  have c1 := inB_lo h3
  have c2 := inB_hi h3
  clear h3
  go_enter Tryz.func96, Tryz.ntmps96
  go_wp2_with fail
  clear hb0 c1 c2
  go_loop [3] (fun i => ∃ k : Nat, k ≤ s.size ∧ i = .int .i64 k ∧ ∀ j, j < k → inB (bt s j) 97 122 = true ∨ inB (bt s j) 48 57 = true) (fun i => s.size - (intOf i).toNat)
  case atStart => exact ⟨0, by omega, rfl, fun j hj => absurd hj (by omega)⟩
  case round =>
    obtain ⟨k, hk, rfl, hall⟩ := hrel
    have HALL := Lib.hid hall
    clear hall
    by_cases hlt : k < s.size
    · have hbk := bt_at hlt
      by_cases q : inB (bt s k) 97 122 = true ∨ inB (bt s k) 48 57 = true
      · have HOK := Lib.hid (okAll HALL.out q)
        have q' : (97 ≤ bt s k ∧ bt s k ≤ 122) ∨ (48 ≤ bt s k ∧ bt s k ≤ 57) := q.imp inB_iff.1 inB_iff.1
        clear q
        by_cases c1 : 97 ≤ bt s k
        · have c2 : bt s k ≤ 122 := by omega
          clear q'
          go_wp2_with fail
          go_round
          case rel => exact ⟨k + 1, by omega, by go_num, HOK.out⟩
          case measure => simp [intOf]; omega
        · have c2 : 48 ≤ bt s k := by omega
          have c3 : bt s k ≤ 57 := by omega
          have c4 : bt s k < 97 := by omega
          clear q'
          go_wp2_with fail
          go_round
          case rel => exact ⟨k + 1, by omega, by go_num, HOK.out⟩
          case measure => simp [intOf]; omega
      · have E := Lib.hid (nameB_no (fun h : NameOk s => q (h.2.2.2 k hlt)))
        have q' : ¬ ((97 ≤ bt s k ∧ bt s k ≤ 122) ∨ (48 ≤ bt s k ∧ bt s k ≤ 57)) := fun h => q (h.imp inB_iff.2 inB_iff.2)
        clear q
        by_cases c1 : 97 ≤ bt s k
        · have c2 : 122 < bt s k := by omega
          have c3 : ¬ bt s k ≤ 57 := by omega
          have c5 : ¬ bt s k ≤ 122 := by omega
          have c4 : 48 ≤ bt s k := by omega
          clear q'
          go_wp2_with fail
          go_ret
          exact ⟨ret_bool E.out.symm, rfl⟩
        · have c4 : bt s k < 97 := by omega
          by_cases c2 : 48 ≤ bt s k
          · have c3 : ¬ bt s k ≤ 57 := by omega
            clear q'
            go_wp2_with fail
            go_ret
            exact ⟨ret_bool E.out.symm, rfl⟩
          · have c3 : bt s k < 48 := by omega
            clear q'
            go_wp2_with fail
            go_ret
            exact ⟨ret_bool E.out.symm, rfl⟩
    · have E := Lib.hid (nameB_yes (s := s) ⟨h1, h2, H3.out, fun j hj => HALL.out j (by omega)⟩)
      go_wp2_with fail
      go_ret
      exact ⟨ret_bool E.out.symm, rfl⟩
end Go.Proofs.YthjllledhcfnhaaGreatDoor
namespace Go.Proofs.YthjllledhcfnhaaGreatDoor
open Go.RowKit Go.Lib Go.Ks

def ProjOk1 (x : ProjectorD) : Prop := NameOk x.f0 ∧ inB x.f1 0 359999 = true ∧ inB x.f2 (-90000) 90000 = true ∧ inB x.f3 5000 120000 = true ∧ inB x.f4 1 1000 = true
open Classical in
noncomputable def projB (x : ProjectorD) : Bool := decide (ProjOk1 x)
theorem projB_no {x : ProjectorD} (h : ¬ ProjOk1 x) : projB x = false := by simp [projB, h]
theorem projB_yes {x : ProjectorD} (h : ProjOk1 x) : projB x = true := by simp [projB, h]
theorem projB_iff {x : ProjectorD} : projB x = true ↔ ProjOk1 x := by simp [projB]

/-- a direction: azimuth and altitude -/
def dirB (a h : Int) : Bool := inB a 0 359999 && inB h (-90000) 90000
theorem dirB_no1 {a h : Int} (q : inB a 0 359999 = false) : dirB a h = false := by simp [dirB, q]
theorem dirB_eq {a h : Int} (q : inB a 0 359999 = true) : dirB a h = inB h (-90000) 90000 := by simp [dirB, q]
theorem dirB_iff {a h : Int} : dirB a h = true ↔ (0 ≤ a ∧ a ≤ 359999) ∧ (-90000 ≤ h ∧ h ≤ 90000) := by simp [dirB, inB_iff]
theorem validDirection_eq (a h : Int) (w : World) :
    Calls Tryz.prog 97 #[.int .i64 a, .int .i64 h] w fun e w' => e = .returned (.bool (dirB a h)) ∧ w = w' := by
  cases q1 : inB a 0 359999
  · have E := Lib.hid (dirB_no1 (h := h) q1)
    go_enter Tryz.func97, Tryz.ntmps97
    go_wp2_with fail
    refine (within_eq _ _ _ _).mono ?_
    rintro e w1 ⟨rfl, rfl⟩
    go_wp2_with fail
    go_ret
    exact ⟨ret_bool E.out.symm, rfl⟩
  · have E := Lib.hid (dirB_eq (h := h) q1)
    go_enter Tryz.func97, Tryz.ntmps97
    go_wp2_with fail
    refine (within_eq _ _ _ _).mono ?_
    rintro e w1 ⟨rfl, rfl⟩
    go_wp2_with fail
    refine (within_eq _ _ _ _).mono ?_
    rintro e w1 ⟨rfl, rfl⟩
    go_wp2_with fail
    go_ret
    exact ⟨ret_bool E.out.symm, rfl⟩
theorem proj_split (x : ProjectorD) : (nameB x.f0 = false ∧ projB x = false) ∨ (nameB x.f0 = true ∧ inB x.f1 0 359999 = false ∧ projB x = false) ∨ (nameB x.f0 = true ∧ inB x.f1 0 359999 = true ∧ inB x.f2 (-90000) 90000 = false ∧ projB x = false) ∨
    (nameB x.f0 = true ∧ inB x.f1 0 359999 = true ∧ inB x.f2 (-90000) 90000 = true ∧ inB x.f3 5000 120000 = false ∧ projB x = false) ∨ (nameB x.f0 = true ∧ inB x.f1 0 359999 = true ∧ inB x.f2 (-90000) 90000 = true ∧ inB x.f3 5000 120000 = true ∧ projB x = inB x.f4 1 1000) := by
  cases h0 : nameB x.f0
  · exact .inl ⟨rfl, projB_no (fun h => by rw [nameB_yes h.1] at h0; cases h0)⟩
  refine .inr ?_
  cases h1 : inB x.f1 0 359999
  · exact .inl ⟨rfl, rfl, projB_no (fun h => by rw [h.2.1] at h1; cases h1)⟩
  refine .inr ?_
  cases h2 : inB x.f2 (-90000) 90000
  · exact .inl ⟨rfl, rfl, rfl, projB_no (fun h => by rw [h.2.2.1] at h2; cases h2)⟩
  refine .inr ?_
  cases h3 : inB x.f3 5000 120000
  · exact .inl ⟨rfl, rfl, rfl, rfl, projB_no (fun h => by rw [h.2.2.2.1] at h3; cases h3)⟩
  refine .inr ⟨rfl, rfl, rfl, rfl, ?_⟩
  cases h4 : inB x.f4 1 1000
  · exact projB_no (fun h => by rw [h.2.2.2.2] at h4; cases h4)
  · exact projB_yes ⟨nameB_iff.1 h0, h1, h2, h3, h4⟩
theorem proj_dir {x : ProjectorD} (h : projB x = true) : (0 ≤ x.f1 ∧ x.f1 ≤ 359999) ∧ (-90000 ≤ x.f2 ∧ x.f2 ≤ 90000) ∧ (5000 ≤ x.f3 ∧ x.f3 ≤ 120000) ∧ (1 ≤ x.f4 ∧ x.f4 ≤ 1000) := by
  obtain ⟨_, h1, h2, h3, h4⟩ := projB_iff.1 h
  exact ⟨inB_iff.1 h1, inB_iff.1 h2, inB_iff.1 h3, inB_iff.1 h4⟩
set_option maxHeartbeats 2000000 in
theorem validProjector_any (x : ProjectorD) (w : World) (hok : ProjectorOk x) :
    Calls Tryz.prog 87 #[.agg #[.string x.f0, .int .i64 x.f1, .int .i64 x.f2, .int .i64 x.f3, .int .i64 x.f4]] w fun e w' => e = .returned (.bool (projB x)) ∧ Below w.heap.size w w' := by
  have g0 := hok.1
  clear hok
  rcases proj_split x with ⟨a0, E⟩ | ⟨a0, a1, E⟩ | ⟨a0, a1, a2, E⟩ | ⟨a0, a1, a2, a3, E⟩ | ⟨a0, a1, a2, a3, E⟩
  · have EE := Lib.hid E
    clear E
    go_enter Tryz.func87, Tryz.ntmps87
    go_wp2_with (first | (go_at_call 96; refine (isName_eq _ (by assumption) _).mono ?_; rintro e w' ⟨rfl, rfl⟩) | (go_at_call 97; refine (validDirection_eq _ _ _).mono ?_; rintro e w' ⟨rfl, rfl⟩) | (go_at_call 60; refine (within_eq _ _ _ _).mono ?_; rintro e w' ⟨rfl, rfl⟩))
    go_ret
    refine ⟨ret_bool EE.out.symm, ?_⟩
    repeat (first | with_reducible exact Below.refl _ _ | with_reducible assumption | with_reducible refine Below.setCell ?_ (by simp <;> omega) _ | with_reducible refine Below.alloc ?_ (by simp <;> omega) _ | with_reducible refine Below.drew ?_)
  · have EE := Lib.hid E
    clear E
    have dd := dirB_no1 (h := x.f2) a1
    go_enter Tryz.func87, Tryz.ntmps87
    go_wp2_with (first | (go_at_call 96; refine (isName_eq _ (by assumption) _).mono ?_; rintro e w' ⟨rfl, rfl⟩) | (go_at_call 97; refine (validDirection_eq _ _ _).mono ?_; rintro e w' ⟨rfl, rfl⟩) | (go_at_call 60; refine (within_eq _ _ _ _).mono ?_; rintro e w' ⟨rfl, rfl⟩))
    go_ret
    refine ⟨ret_bool EE.out.symm, ?_⟩
    repeat (first | with_reducible exact Below.refl _ _ | with_reducible assumption | with_reducible refine Below.setCell ?_ (by simp <;> omega) _ | with_reducible refine Below.alloc ?_ (by simp <;> omega) _ | with_reducible refine Below.drew ?_)
  all_goals
    have EE := Lib.hid E
    clear E
    have dd := dirB_eq (h := x.f2) a1
    rw [a2] at dd
    go_enter Tryz.func87, Tryz.ntmps87
    go_wp2_with (first | (go_at_call 96; refine (isName_eq _ (by assumption) _).mono ?_; rintro e w' ⟨rfl, rfl⟩) | (go_at_call 97; refine (validDirection_eq _ _ _).mono ?_; rintro e w' ⟨rfl, rfl⟩) | (go_at_call 60; refine (within_eq _ _ _ _).mono ?_; rintro e w' ⟨rfl, rfl⟩))
    go_ret
    refine ⟨ret_bool EE.out.symm, ?_⟩
    repeat (first | with_reducible exact Below.refl _ _ | with_reducible assumption | with_reducible refine Below.setCell ?_ (by simp <;> omega) _ | with_reducible refine Below.alloc ?_ (by simp <;> omega) _ | with_reducible refine Below.drew ?_)
/-- the order of strings: a comes ahead of b -/
def strLt (a b : ByteArray) : Prop := Go.Op.bytesLess a.toList b.toList = true
def ProjAt (l : Nat → ProjectorD) (k : Nat) : Prop := projB (l k) = true ∧ (0 < k → strLt (l (k - 1)).f0 (l k).f0)
def ProjsOk (n : Nat) (l : Nat → ProjectorD) : Prop := n ≤ 6 ∧ ∀ k, k < n → ProjAt l k
open Classical in
noncomputable def projsB (n : Nat) (l : Nat → ProjectorD) : Bool := decide (ProjsOk n l)
theorem projsB_no {n : Nat} {l : Nat → ProjectorD} (h : ¬ ProjsOk n l) : projsB n l = false := by simp [projsB, h]
theorem projsB_yes {n : Nat} {l : Nat → ProjectorD} (h : ProjsOk n l) : projsB n l = true := by simp [projsB, h]
theorem projsB_of {n : Nat} {l : Nat → ProjectorD} (h : projsB n l = true) : ProjsOk n l := by simpa [projsB] using h
set_option maxHeartbeats 4000000 in
theorem validProjectors_any (A : Option Addr) (n c : Nat) (l : Nat → ProjectorD) (w : World) (hn2 : n ≤ 1048576) (hs : Sl w A (n * 5) (ProjectorC l)) (hg : ∀ k, k < n → ProjectorOk (l k)) :
    Calls Tryz.prog 51 #[.slice A n c] w fun e w' => e = .returned (.bool (projsB n l)) ∧ Below w.heap.size w w' := by
  have hn3 : (n : Int) ≤ 1048576 := by omega
  by_cases h6 : n ≤ 6
  rotate_left
  · have E := Lib.hid (projsB_no (n := n) (l := l) (fun h => h6 h.1))
    have h6' : 6 < (n : Int) := by omega
    go_enter Tryz.func51, Tryz.ntmps51
    go_wp2_with fail
    go_ret
    exact ⟨ret_bool E.out.symm, Below.refl _ _⟩
  have h6' : (n : Int) ≤ 6 := by omega
  go_enter Tryz.func51, Tryz.ntmps51
  go_wp2_with fail
  go_loopw [10] (fun i wr => ∃ k : Nat, k ≤ n ∧ i = .int .i64 k ∧ Below w.heap.size w wr ∧ ∀ j, j < k → ProjAt l j) (fun i _ => n - (intOf i).toNat)
  case atStart => exact ⟨0, Nat.zero_le _, rfl, Below.refl _ _, fun j hj => absurd hj (by omega)⟩
  case round =>
    obtain ⟨k, hk, rfl, hbl, hall⟩ := hrel
    have HALL := Lib.hid hall
    clear hall
    by_cases hlt : k < n
    · obtain ⟨b, off, rfl, hc⟩ := ProjectorAt.of_sl hs (by omega)
      obtain ⟨hbr, d0, d1, d2, d3, d4⟩ := (hc k hlt).below hbl
      have GK := Lib.hid (hg k hlt)
      have HBAD := Lib.hid (fun h : ¬ ProjAt l k => projsB_no (n := n) (l := l) (fun hh => h (hh.2 k hlt)))
      have hbr2 : b < wr.heap.size + 1 := by omega
      have hal : Below w.heap.size w (wr.alloc (.cells #[.string (l k).f0, .int .i64 (l k).f1, .int .i64 (l k).f2, .int .i64 (l k).f3, .int .i64 (l k).f4] 125)) := hbl.alloc hbl.size _
      have hsz : w.heap.size ≤ (wr.alloc (.cells #[.string (l k).f0, .int .i64 (l k).f1, .int .i64 (l k).f2, .int .i64 (l k).f3, .int .i64 (l k).f4] 125)).heap.size := hal.size
      cases q1 : projB (l k)
      · have E := Lib.hid (HBAD.out (fun h => by rw [h.1] at q1; cases q1))
        clear hc
        go_wp2_with fail
        refine wp_region_ext (by kernel_rfl) (by kernel_rfl) ?_
        repeat (go_big_quiet_step ((first | (go_at_call 87; exact quiet_ext (validProjector_any (l k) _ GK.out)))))
        refine wpQuiet_nil ?_
        intro e1
        have hb1 := hal.trans (e1.below.mono hsz)
        go_wp2_with fail
        go_ret
        exact ⟨ret_bool E.out.symm, hb1⟩
      by_cases q2 : 0 < k
      rotate_left
      · have q2' : decide (0 < k) = false := by simpa using q2
        have HOK := Lib.hid (okAll HALL.out (⟨q1, fun h => absurd h q2⟩ : ProjAt l k))
        clear hc
        go_wp2_with fail
        refine wp_region_ext (by kernel_rfl) (by kernel_rfl) ?_
        repeat (go_big_quiet_step ((first | (go_at_call 87; exact quiet_ext (validProjector_any (l k) _ GK.out)))))
        refine wpQuiet_nil ?_
        intro e1
        have hb1 := hal.trans (e1.below.mono hsz)
        go_wp2_with fail
        go_roundw
        case rel => exact ⟨k + 1, by omega, by go_num, hb1, HOK.out⟩
        case measure => simp [intOf]; omega
      have p0 := ((hc (k - 1) (by omega)).below hbl).2.1
      have hk1 : (1 : Int) ≤ k := by omega
      clear hc
      cases q3 : Go.Op.bytesLess (l (k - 1)).f0.toList (l k).f0.toList
      · have E := Lib.hid (HBAD.out (fun h => by have h1 := h.2 q2; unfold strLt at h1; rw [h1] at q3; cases q3))
        go_wp2_with fail
        refine wp_region_ext (by kernel_rfl) (by kernel_rfl) ?_
        repeat (go_big_quiet_step ((first | (go_at_call 87; exact quiet_ext (validProjector_any (l k) _ GK.out)))))
        refine wpQuiet_nil ?_
        intro e1
        have hb1 := hal.trans (e1.below.mono hsz)
        go_wp2_with fail
        go_ret
        exact ⟨ret_bool E.out.symm, hb1⟩
      · have HOK := Lib.hid (okAll HALL.out (⟨q1, fun _ => q3⟩ : ProjAt l k))
        go_wp2_with fail
        refine wp_region_ext (by kernel_rfl) (by kernel_rfl) ?_
        repeat (go_big_quiet_step ((first | (go_at_call 87; exact quiet_ext (validProjector_any (l k) _ GK.out)))))
        refine wpQuiet_nil ?_
        intro e1
        have hb1 := hal.trans (e1.below.mono hsz)
        go_wp2_with fail
        go_roundw
        case rel => exact ⟨k + 1, by omega, by go_num, hb1, HOK.out⟩
        case measure => simp [intOf]; omega
    · have hkn : k = n := by omega
      subst hkn
      have E := Lib.hid (projsB_yes (n := k) (l := l) ⟨h6, HALL.out⟩)
      go_wp2_with fail
      go_ret
      exact ⟨ret_bool E.out.symm, hbl⟩
end Go.Proofs.YthjllledhcfnhaaGreatDoor
