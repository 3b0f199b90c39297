/- Projectors: what the tests of the program and of the reference answer. Conditions: the sizes of strings; the slice reads as projectors. -/
import Derived.Test.YthjllledhcfnhaaDoorName
import Derived.Laws.Cover1
namespace Go.Proofs.YthjllledhcfnhaaDoor
open Go.RowKit Go.Lib Go.Ks

def ProjOk1 (x : ProjectorD) : Prop := NameOk x.f0 ∧ inB x.f1 0 359999 = true ∧ inB x.f2 (-90000) 90000 = true ∧ inB x.f3 5000 120000 = true ∧ inB x.f4 1 1000 = true
open Classical in
noncomputable def projB (x : ProjectorD) : Bool := decide (ProjOk1 x)
theorem projB_no {x : ProjectorD} (h : ¬ ProjOk1 x) : projB x = false := by simp [projB, h]
theorem projB_yes {x : ProjectorD} (h : ProjOk1 x) : projB x = true := by simp [projB, h]
theorem projB_iff {x : ProjectorD} : projB x = true ↔ ProjOk1 x := by simp [projB]

theorem l06Latitude_eq (n : Int) (w : World) :
    Calls Tryd.prog 163 #[.int .i64 n] w fun e w' => e = .returned (.bool (inB n (-90000) 90000)) ∧ w = w' := by
  go_enter Tryd.func163, Tryd.ntmps163
  go_wp2_with fail
  refine (l00In_eq _ _ _ _).mono ?_
  rintro e w1 ⟨rfl, rfl⟩
  go_wp2_with fail
  go_ret
  exact ⟨rfl, rfl⟩
/-- a direction: azimuth and altitude -/
def dirB (a h : Int) : Bool := inB a 0 359999 && inB h (-90000) 90000
theorem dirB_no1 {a h : Int} (q : inB a 0 359999 = false) : dirB a h = false := by simp [dirB, q]
theorem dirB_eq {a h : Int} (q : inB a 0 359999 = true) : dirB a h = inB h (-90000) 90000 := by simp [dirB, q]
theorem dirB_iff {a h : Int} : dirB a h = true ↔ (0 ≤ a ∧ a ≤ 359999) ∧ (-90000 ≤ h ∧ h ≤ 90000) := by simp [dirB, inB_iff]
theorem validDirection_eq (a h : Int) (w : World) :
    Calls Tryd.prog 126 #[.int .i64 a, .int .i64 h] w fun e w' => e = .returned (.bool (dirB a h)) ∧ w = w' := by
  cases q1 : inB a 0 359999
  · have E := Lib.hid (dirB_no1 (h := h) q1)
    go_enter Tryd.func126, Tryd.ntmps126
    go_wp2_with fail
    refine (within_eq _ _ _ _).mono ?_
    rintro e w1 ⟨rfl, rfl⟩
    go_wp2_with fail
    go_ret
    exact ⟨ret_bool E.out.symm, rfl⟩
  · have E := Lib.hid (dirB_eq (h := h) q1)
    go_enter Tryd.func126, Tryd.ntmps126
    go_wp2_with fail
    refine (within_eq _ _ _ _).mono ?_
    rintro e w1 ⟨rfl, rfl⟩
    go_wp2_with fail
    refine (within_eq _ _ _ _).mono ?_
    rintro e w1 ⟨rfl, rfl⟩
    go_wp2_with fail
    go_ret
    exact ⟨ret_bool E.out.symm, rfl⟩
theorem proj_split (x : ProjectorD) : (nameB x.f0 = false ∧ projB x = false) ∨ (nameB x.f0 = true ∧ inB x.f1 0 359999 = false ∧ projB x = false) ∨ (nameB x.f0 = true ∧ inB x.f1 0 359999 = true ∧ inB x.f2 (-90000) 90000 = false ∧ projB x = false) ∨
    (nameB x.f0 = true ∧ inB x.f1 0 359999 = true ∧ inB x.f2 (-90000) 90000 = true ∧ inB x.f3 5000 120000 = false ∧ projB x = false) ∨ (nameB x.f0 = true ∧ inB x.f1 0 359999 = true ∧ inB x.f2 (-90000) 90000 = true ∧ inB x.f3 5000 120000 = true ∧ projB x = inB x.f4 1 1000) := by
  cases h0 : nameB x.f0
  · exact .inl ⟨rfl, projB_no (fun h => by rw [nameB_yes h.1] at h0; cases h0)⟩
  refine .inr ?_
  cases h1 : inB x.f1 0 359999
  · exact .inl ⟨rfl, rfl, projB_no (fun h => by rw [h.2.1] at h1; cases h1)⟩
  refine .inr ?_
  cases h2 : inB x.f2 (-90000) 90000
  · exact .inl ⟨rfl, rfl, rfl, projB_no (fun h => by rw [h.2.2.1] at h2; cases h2)⟩
  refine .inr ?_
  cases h3 : inB x.f3 5000 120000
  · exact .inl ⟨rfl, rfl, rfl, rfl, projB_no (fun h => by rw [h.2.2.2.1] at h3; cases h3)⟩
  refine .inr ⟨rfl, rfl, rfl, rfl, ?_⟩
  cases h4 : inB x.f4 1 1000
  · exact projB_no (fun h => by rw [h.2.2.2.2] at h4; cases h4)
  · exact projB_yes ⟨nameB_iff.1 h0, h1, h2, h3, h4⟩
set_option maxHeartbeats 2000000 in
theorem l10One_any (b o : Nat) (x : ProjectorD) (w : World) (hx : ProjectorAt w b o x) (hok : ProjectorOk x) :
    Calls Tryd.prog 144 #[.pointer (some ⟨b, o, none⟩)] w fun e w' => e = .returned (.bool (projB x)) ∧ w = w' := by
  obtain ⟨hlt, c0, c1, c2, c3, c4⟩ := hx
  have g0 := hok.1
  clear hok
  rcases proj_split x with ⟨a0, E⟩ | ⟨a0, a1, E⟩ | ⟨a0, a1, a2, E⟩ | ⟨a0, a1, a2, a3, E⟩ | ⟨a0, a1, a2, a3, E⟩
  all_goals
    have EE := Lib.hid E
    clear E
    go_enter Tryd.func144, Tryd.ntmps144
    go_wp2_with (first | (go_at_call 161; refine (l01Name_eq _ (by assumption) _).mono ?_; rintro e w' ⟨rfl, rfl⟩) | (go_at_call 162; refine (l06Turn_eq _ _).mono ?_; rintro e w' ⟨rfl, rfl⟩) | (go_at_call 163; refine (l06Latitude_eq _ _).mono ?_; rintro e w' ⟨rfl, rfl⟩) | (go_at_call 56; refine (l00In_eq _ _ _ _).mono ?_; rintro e w' ⟨rfl, rfl⟩))
    go_ret
    exact ⟨ret_bool EE.out.symm, rfl⟩
theorem proj_dir {x : ProjectorD} (h : projB x = true) : (0 ≤ x.f1 ∧ x.f1 ≤ 359999) ∧ (-90000 ≤ x.f2 ∧ x.f2 ≤ 90000) ∧ (5000 ≤ x.f3 ∧ x.f3 ≤ 120000) ∧ (1 ≤ x.f4 ∧ x.f4 ≤ 1000) := by
  obtain ⟨_, h1, h2, h3, h4⟩ := projB_iff.1 h
  exact ⟨inB_iff.1 h1, inB_iff.1 h2, inB_iff.1 h3, inB_iff.1 h4⟩
set_option maxHeartbeats 2000000 in
theorem validProjector_any (x : ProjectorD) (w : World) (hok : ProjectorOk x) :
    Calls Tryd.prog 78 #[.agg #[.string x.f0, .int .i64 x.f1, .int .i64 x.f2, .int .i64 x.f3, .int .i64 x.f4]] w fun e w' => e = .returned (.bool (projB x)) ∧ Below w.heap.size w w' := by
  have g0 := hok.1
  clear hok
  rcases proj_split x with ⟨a0, E⟩ | ⟨a0, a1, E⟩ | ⟨a0, a1, a2, E⟩ | ⟨a0, a1, a2, a3, E⟩ | ⟨a0, a1, a2, a3, E⟩
  · have EE := Lib.hid E
    clear E
    go_enter Tryd.func78, Tryd.ntmps78
    go_wp2_with (first | (go_at_call 125; refine (isName_eq _ (by assumption) _).mono ?_; rintro e w' ⟨rfl, rfl⟩) | (go_at_call 126; refine (validDirection_eq _ _ _).mono ?_; rintro e w' ⟨rfl, rfl⟩) | (go_at_call 66; refine (within_eq _ _ _ _).mono ?_; rintro e w' ⟨rfl, rfl⟩))
    go_ret
    refine ⟨ret_bool EE.out.symm, ?_⟩
    repeat (first | with_reducible exact Below.refl _ _ | with_reducible assumption | with_reducible refine Below.setCell ?_ (by simp <;> omega) _ | with_reducible refine Below.alloc ?_ (by simp <;> omega) _ | with_reducible refine Below.drew ?_)
  · have EE := Lib.hid E
    clear E
    have dd := dirB_no1 (h := x.f2) a1
    go_enter Tryd.func78, Tryd.ntmps78
    go_wp2_with (first | (go_at_call 125; refine (isName_eq _ (by assumption) _).mono ?_; rintro e w' ⟨rfl, rfl⟩) | (go_at_call 126; refine (validDirection_eq _ _ _).mono ?_; rintro e w' ⟨rfl, rfl⟩) | (go_at_call 66; refine (within_eq _ _ _ _).mono ?_; rintro e w' ⟨rfl, rfl⟩))
    go_ret
    refine ⟨ret_bool EE.out.symm, ?_⟩
    repeat (first | with_reducible exact Below.refl _ _ | with_reducible assumption | with_reducible refine Below.setCell ?_ (by simp <;> omega) _ | with_reducible refine Below.alloc ?_ (by simp <;> omega) _ | with_reducible refine Below.drew ?_)
  all_goals
    have EE := Lib.hid E
    clear E
    have dd := dirB_eq (h := x.f2) a1
    rw [a2] at dd
    go_enter Tryd.func78, Tryd.ntmps78
    go_wp2_with (first | (go_at_call 125; refine (isName_eq _ (by assumption) _).mono ?_; rintro e w' ⟨rfl, rfl⟩) | (go_at_call 126; refine (validDirection_eq _ _ _).mono ?_; rintro e w' ⟨rfl, rfl⟩) | (go_at_call 66; refine (within_eq _ _ _ _).mono ?_; rintro e w' ⟨rfl, rfl⟩))
    go_ret
    refine ⟨ret_bool EE.out.symm, ?_⟩
    repeat (first | with_reducible exact Below.refl _ _ | with_reducible assumption | with_reducible refine Below.setCell ?_ (by simp <;> omega) _ | with_reducible refine Below.alloc ?_ (by simp <;> omega) _ | with_reducible refine Below.drew ?_)
/-- the order of strings: a comes ahead of b -/
def strLt (a b : ByteArray) : Prop := Go.Op.bytesLess a.toList b.toList = true
def ProjAt (l : Nat → ProjectorD) (k : Nat) : Prop := projB (l k) = true ∧ (0 < k → strLt (l (k - 1)).f0 (l k).f0)
def ProjsOk (n : Nat) (l : Nat → ProjectorD) : Prop := n ≤ 6 ∧ ∀ k, k < n → ProjAt l k
open Classical in
noncomputable def projsB (n : Nat) (l : Nat → ProjectorD) : Bool := decide (ProjsOk n l)
theorem projsB_no {n : Nat} {l : Nat → ProjectorD} (h : ¬ ProjsOk n l) : projsB n l = false := by simp [projsB, h]
theorem projsB_yes {n : Nat} {l : Nat → ProjectorD} (h : ProjsOk n l) : projsB n l = true := by simp [projsB, h]
theorem projsB_of {n : Nat} {l : Nat → ProjectorD} (h : projsB n l = true) : ProjsOk n l := by simpa [projsB] using h
set_option maxHeartbeats 4000000 in
theorem l10Ok_any (A : Option Addr) (n c : Nat) (l : Nat → ProjectorD) (w : World) (hn2 : n ≤ 1048576) (hs : Sl w A (n * 5) (ProjectorC l)) (hg : ∀ k, k < n → ProjectorOk (l k)) :
    Calls Tryd.prog 111 #[.slice A n c] w fun e w' => e = .returned (.bool (projsB n l)) ∧ Below w.heap.size w w' := by
  have hn3 : (n : Int) ≤ 1048576 := by omega
  go_enter Tryd.func111, Tryd.ntmps111
  go_wp2_with fail
  go_loopw [3] (fun i wr => ∃ k : Nat, k ≤ n ∧ i = .int .i64 k ∧ Below w.heap.size w wr ∧ ∀ j, j < k → ProjAt l j) (fun i _ => n - (intOf i).toNat)
  case atStart => exact ⟨0, Nat.zero_le _, rfl, Below.refl _ _, fun j hj => absurd hj (by omega)⟩
  case round =>
    obtain ⟨k, hk, rfl, hbl, hall⟩ := hrel
    have HALL := Lib.hid hall
    clear hall
    by_cases hlt : k < n
    · obtain ⟨b, off, rfl, hc⟩ := ProjectorAt.of_sl hs (by omega)
      have PK := Lib.hid ((hc k hlt).below hbl)
      have GK := Lib.hid (hg k hlt)
      have d0 := ((hc k hlt).below hbl).2.1
      have hbr := ((hc k hlt).below hbl).1
      have HBAD := Lib.hid (fun h : ¬ ProjAt l k => projsB_no (n := n) (l := l) (fun hh => h (hh.2 k hlt)))
      have l1 := Lib.hid (fun e : ExtW wr => PK.out.below e.below)
      cases q1 : projB (l k)
      · have E := Lib.hid (HBAD.out (fun h => by rw [h.1] at q1; cases q1))
        clear hc
        go_wp2_with fail
        refine wp_region_ext (by kernel_rfl) (by kernel_rfl) ?_
        repeat (go_big_quiet_step ((first | (go_at_call 144; exact quiet_ext ((l10One_any _ _ (l k) _ (l1.out _) GK.out).mono fun _ _ h => ⟨h.1, h.2 ▸ Below.refl _ _⟩)))))
        refine wpQuiet_nil ?_
        intro e1
        have hb1 := hbl.trans (e1.below.mono hbl.size)
        go_wp2_with fail
        go_ret
        exact ⟨ret_bool E.out.symm, hb1⟩
      by_cases q2 : 0 < k
      rotate_left
      · have q2' : decide (0 < k) = false := by simpa using q2
        have HOK := Lib.hid (okAll HALL.out (⟨q1, fun h => absurd h q2⟩ : ProjAt l k))
        clear hc
        go_wp2_with fail
        refine wp_region_ext (by kernel_rfl) (by kernel_rfl) ?_
        repeat (go_big_quiet_step ((first | (go_at_call 144; exact quiet_ext ((l10One_any _ _ (l k) _ (l1.out _) GK.out).mono fun _ _ h => ⟨h.1, h.2 ▸ Below.refl _ _⟩)))))
        refine wpQuiet_nil ?_
        intro e1
        have hb1 := hbl.trans (e1.below.mono hbl.size)
        go_wp2_with fail
        go_roundw
        case rel => exact ⟨k + 1, by omega, by go_num, hb1, HOK.out⟩
        case measure => simp [intOf]; omega
      have p0 := ((hc (k - 1) (by omega)).below hbl).2.1
      have hk1 : (1 : Int) ≤ k := by omega
      clear hc
      cases q3 : Go.Op.bytesLess (l (k - 1)).f0.toList (l k).f0.toList
      · have E := Lib.hid (HBAD.out (fun h => by have h1 := h.2 q2; unfold strLt at h1; rw [h1] at q3; cases q3))
        go_wp2_with fail
        refine wp_region_ext (by kernel_rfl) (by kernel_rfl) ?_
        repeat (go_big_quiet_step ((first | (go_at_call 144; exact quiet_ext ((l10One_any _ _ (l k) _ (l1.out _) GK.out).mono fun _ _ h => ⟨h.1, h.2 ▸ Below.refl _ _⟩)))))
        refine wpQuiet_nil ?_
        intro e1
        have hb1 := hbl.trans (e1.below.mono hbl.size)
        go_wp2_with fail
        go_ret
        exact ⟨ret_bool E.out.symm, hb1⟩
      · have HOK := Lib.hid (okAll HALL.out (⟨q1, fun _ => q3⟩ : ProjAt l k))
        go_wp2_with fail
        refine wp_region_ext (by kernel_rfl) (by kernel_rfl) ?_
        repeat (go_big_quiet_step ((first | (go_at_call 144; exact quiet_ext ((l10One_any _ _ (l k) _ (l1.out _) GK.out).mono fun _ _ h => ⟨h.1, h.2 ▸ Below.refl _ _⟩)))))
        refine wpQuiet_nil ?_
        intro e1
        have hb1 := hbl.trans (e1.below.mono hbl.size)
        go_wp2_with fail
        go_roundw
        case rel => exact ⟨k + 1, by omega, by go_num, hb1, HOK.out⟩
        case measure => simp [intOf]; omega
    · have hkn : k = n := by omega
      subst hkn
      by_cases h6 : k ≤ 6
      · have E := Lib.hid (projsB_yes (n := k) (l := l) ⟨h6, HALL.out⟩)
        have h6' : (k : Int) ≤ 6 := by omega
        go_wp2_with fail
        go_ret
        exact ⟨ret_bool E.out.symm, hbl⟩
      · have E := Lib.hid (projsB_no (n := k) (l := l) (fun h => h6 h.1))
        have h6' : ¬ (k : Int) ≤ 6 := by omega
        go_wp2_with fail
        go_ret
        exact ⟨ret_bool E.out.symm, hbl⟩
set_option maxHeartbeats 4000000 in
theorem validProjectors_any (A : Option Addr) (n c : Nat) (l : Nat → ProjectorD) (w : World) (hn2 : n ≤ 1048576) (hs : Sl w A (n * 5) (ProjectorC l)) (hg : ∀ k, k < n → ProjectorOk (l k)) :
    Calls Tryd.prog 64 #[.slice A n c] w fun e w' => e = .returned (.bool (projsB n l)) ∧ Below w.heap.size w w' := by
  have hn3 : (n : Int) ≤ 1048576 := by omega
  by_cases h6 : n ≤ 6
  rotate_left
  · have E := Lib.hid (projsB_no (n := n) (l := l) (fun h => h6 h.1))
    have h6' : 6 < (n : Int) := by omega
    go_enter Tryd.func64, Tryd.ntmps64
    go_wp2_with fail
    go_ret
    exact ⟨ret_bool E.out.symm, Below.refl _ _⟩
  have h6' : (n : Int) ≤ 6 := by omega
  go_enter Tryd.func64, Tryd.ntmps64
  go_wp2_with fail
  go_loopw [10] (fun i wr => ∃ k : Nat, k ≤ n ∧ i = .int .i64 k ∧ Below w.heap.size w wr ∧ ∀ j, j < k → ProjAt l j) (fun i _ => n - (intOf i).toNat)
  case atStart => exact ⟨0, Nat.zero_le _, rfl, Below.refl _ _, fun j hj => absurd hj (by omega)⟩
  case round =>
    obtain ⟨k, hk, rfl, hbl, hall⟩ := hrel
    have HALL := Lib.hid hall
    clear hall
    by_cases hlt : k < n
    · obtain ⟨b, off, rfl, hc⟩ := ProjectorAt.of_sl hs (by omega)
      obtain ⟨hbr, d0, d1, d2, d3, d4⟩ := (hc k hlt).below hbl
      have GK := Lib.hid (hg k hlt)
      have HBAD := Lib.hid (fun h : ¬ ProjAt l k => projsB_no (n := n) (l := l) (fun hh => h (hh.2 k hlt)))
      have hbr2 : b < wr.heap.size + 1 := by omega
      have hal : Below w.heap.size w (wr.alloc (.cells #[.string (l k).f0, .int .i64 (l k).f1, .int .i64 (l k).f2, .int .i64 (l k).f3, .int .i64 (l k).f4] 43)) := hbl.alloc hbl.size _
      have hsz : w.heap.size ≤ (wr.alloc (.cells #[.string (l k).f0, .int .i64 (l k).f1, .int .i64 (l k).f2, .int .i64 (l k).f3, .int .i64 (l k).f4] 43)).heap.size := hal.size
      cases q1 : projB (l k)
      · have E := Lib.hid (HBAD.out (fun h => by rw [h.1] at q1; cases q1))
        clear hc
        go_wp2_with fail
        refine wp_region_ext (by kernel_rfl) (by kernel_rfl) ?_
        repeat (go_big_quiet_step ((first | (go_at_call 78; exact quiet_ext (validProjector_any (l k) _ GK.out)))))
        refine wpQuiet_nil ?_
        intro e1
        have hb1 := hal.trans (e1.below.mono hsz)
        go_wp2_with fail
        go_ret
        exact ⟨ret_bool E.out.symm, hb1⟩
      by_cases q2 : 0 < k
      rotate_left
      · have q2' : decide (0 < k) = false := by simpa using q2
        have HOK := Lib.hid (okAll HALL.out (⟨q1, fun h => absurd h q2⟩ : ProjAt l k))
        clear hc
        go_wp2_with fail
        refine wp_region_ext (by kernel_rfl) (by kernel_rfl) ?_
        repeat (go_big_quiet_step ((first | (go_at_call 78; exact quiet_ext (validProjector_any (l k) _ GK.out)))))
        refine wpQuiet_nil ?_
        intro e1
        have hb1 := hal.trans (e1.below.mono hsz)
        go_wp2_with fail
        go_roundw
        case rel => exact ⟨k + 1, by omega, by go_num, hb1, HOK.out⟩
        case measure => simp [intOf]; omega
      have p0 := ((hc (k - 1) (by omega)).below hbl).2.1
      have hk1 : (1 : Int) ≤ k := by omega
      clear hc
      cases q3 : Go.Op.bytesLess (l (k - 1)).f0.toList (l k).f0.toList
      · have E := Lib.hid (HBAD.out (fun h => by have h1 := h.2 q2; unfold strLt at h1; rw [h1] at q3; cases q3))
        go_wp2_with fail
        refine wp_region_ext (by kernel_rfl) (by kernel_rfl) ?_
        repeat (go_big_quiet_step ((first | (go_at_call 78; exact quiet_ext (validProjector_any (l k) _ GK.out)))))
        refine wpQuiet_nil ?_
        intro e1
        have hb1 := hal.trans (e1.below.mono hsz)
        go_wp2_with fail
        go_ret
        exact ⟨ret_bool E.out.symm, hb1⟩
      · have HOK := Lib.hid (okAll HALL.out (⟨q1, fun _ => q3⟩ : ProjAt l k))
        go_wp2_with fail
        refine wp_region_ext (by kernel_rfl) (by kernel_rfl) ?_
        repeat (go_big_quiet_step ((first | (go_at_call 78; exact quiet_ext (validProjector_any (l k) _ GK.out)))))
        refine wpQuiet_nil ?_
        intro e1
        have hb1 := hal.trans (e1.below.mono hsz)
        go_wp2_with fail
        go_roundw
        case rel => exact ⟨k + 1, by omega, by go_num, hb1, HOK.out⟩
        case measure => simp [intOf]; omega
    · have hkn : k = n := by omega
      subst hkn
      have E := Lib.hid (projsB_yes (n := k) (l := l) ⟨h6, HALL.out⟩)
      go_wp2_with fail
      go_ret
      exact ⟨ret_bool E.out.symm, hbl⟩
end Go.Proofs.YthjllledhcfnhaaDoor
