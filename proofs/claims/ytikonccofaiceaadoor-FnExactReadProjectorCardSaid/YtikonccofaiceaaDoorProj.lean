/- Projectors: what the tests of the program and of the reference answer. Conditions: the sizes of strings; the slice reads as projectors. -/
import Derived.Test.YtikonccofaiceaaDoorName
import Derived.Laws.Cover1
namespace Go.Proofs.YtikonccofaiceaaDoor
open Go.RowKit Go.Lib Go.Ks

def ProjOk1 (x : ProjectorD) : Prop := NameOk x.f0 ∧ inB x.f1 0 359999 = true ∧ inB x.f2 (-90000) 90000 = true ∧ inB x.f3 5000 120000 = true ∧ inB x.f4 1 1000 = true
open Classical in
noncomputable def projB (x : ProjectorD) : Bool := decide (ProjOk1 x)
theorem projB_no {x : ProjectorD} (h : ¬ ProjOk1 x) : projB x = false := by simp [projB, h]
theorem projB_yes {x : ProjectorD} (h : ProjOk1 x) : projB x = true := by simp [projB, h]
theorem projB_iff {x : ProjectorD} : projB x = true ↔ ProjOk1 x := by simp [projB]

theorem l06Latitude_eq (n : Int) (w : World) :
    Calls Tryd.prog 106 #[.int .i64 n] w fun e w' => e = .returned (.bool (inB n (-90000) 90000)) ∧ w = w' := by
  go_enter Tryd.func106, Tryd.ntmps106
  go_wp2_with fail
  refine (l00In_eq _ _ _ _).mono ?_
  rintro e w1 ⟨rfl, rfl⟩
  go_wp2_with fail
  go_ret
  exact ⟨rfl, rfl⟩
/-- a direction: azimuth and altitude -/
def dirB (a h : Int) : Bool := inB a 0 359999 && inB h (-90000) 90000
theorem dirB_no1 {a h : Int} (q : inB a 0 359999 = false) : dirB a h = false := by simp [dirB, q]
theorem dirB_eq {a h : Int} (q : inB a 0 359999 = true) : dirB a h = inB h (-90000) 90000 := by simp [dirB, q]
theorem dirB_iff {a h : Int} : dirB a h = true ↔ (0 ≤ a ∧ a ≤ 359999) ∧ (-90000 ≤ h ∧ h ≤ 90000) := by simp [dirB, inB_iff]
theorem validDirection_eq (a h : Int) (w : World) :
    Calls Tryd.prog 109 #[.int .i64 a, .int .i64 h] w fun e w' => e = .returned (.bool (dirB a h)) ∧ w = w' := by
  cases q1 : inB a 0 359999
  · have E := Lib.hid (dirB_no1 (h := h) q1)
    go_enter Tryd.func109, Tryd.ntmps109
    go_wp2_with fail
    refine (within_eq _ _ _ _).mono ?_
    rintro e w1 ⟨rfl, rfl⟩
    go_wp2_with fail
    go_ret
    exact ⟨ret_bool E.out.symm, rfl⟩
  · have E := Lib.hid (dirB_eq (h := h) q1)
    go_enter Tryd.func109, Tryd.ntmps109
    go_wp2_with fail
    refine (within_eq _ _ _ _).mono ?_
    rintro e w1 ⟨rfl, rfl⟩
    go_wp2_with fail
    refine (within_eq _ _ _ _).mono ?_
    rintro e w1 ⟨rfl, rfl⟩
    go_wp2_with fail
    go_ret
    exact ⟨ret_bool E.out.symm, rfl⟩
theorem proj_split (x : ProjectorD) : (nameB x.f0 = false ∧ projB x = false) ∨ (nameB x.f0 = true ∧ inB x.f1 0 359999 = false ∧ projB x = false) ∨ (nameB x.f0 = true ∧ inB x.f1 0 359999 = true ∧ inB x.f2 (-90000) 90000 = false ∧ projB x = false) ∨
    (nameB x.f0 = true ∧ inB x.f1 0 359999 = true ∧ inB x.f2 (-90000) 90000 = true ∧ inB x.f3 5000 120000 = false ∧ projB x = false) ∨ (nameB x.f0 = true ∧ inB x.f1 0 359999 = true ∧ inB x.f2 (-90000) 90000 = true ∧ inB x.f3 5000 120000 = true ∧ projB x = inB x.f4 1 1000) := by
  cases h0 : nameB x.f0
  · exact .inl ⟨rfl, projB_no (fun h => by rw [nameB_yes h.1] at h0; cases h0)⟩
  refine .inr ?_
  cases h1 : inB x.f1 0 359999
  · exact .inl ⟨rfl, rfl, projB_no (fun h => by rw [h.2.1] at h1; cases h1)⟩
  refine .inr ?_
  cases h2 : inB x.f2 (-90000) 90000
  · exact .inl ⟨rfl, rfl, rfl, projB_no (fun h => by rw [h.2.2.1] at h2; cases h2)⟩
  refine .inr ?_
  cases h3 : inB x.f3 5000 120000
  · exact .inl ⟨rfl, rfl, rfl, rfl, projB_no (fun h => by rw [h.2.2.2.1] at h3; cases h3)⟩
  refine .inr ⟨rfl, rfl, rfl, rfl, ?_⟩
  cases h4 : inB x.f4 1 1000
  · exact projB_no (fun h => by rw [h.2.2.2.2] at h4; cases h4)
  · exact projB_yes ⟨nameB_iff.1 h0, h1, h2, h3, h4⟩
set_option maxHeartbeats 2000000 in
theorem l10One_any (b o : Nat) (x : ProjectorD) (w : World) (hx : ProjectorAt w b o x) (hok : ProjectorOk x) :
    Calls Tryd.prog 73 #[.pointer (some ⟨b, o, none⟩)] w fun e w' => e = .returned (.bool (projB x)) ∧ w = w' := by
  obtain ⟨hlt, c0, c1, c2, c3, c4⟩ := hx
  have g0 := hok.1
  clear hok
  rcases proj_split x with ⟨a0, E⟩ | ⟨a0, a1, E⟩ | ⟨a0, a1, a2, E⟩ | ⟨a0, a1, a2, a3, E⟩ | ⟨a0, a1, a2, a3, E⟩
  all_goals
    have EE := Lib.hid E
    clear E
    go_enter Tryd.func73, Tryd.ntmps73
    go_wp2_with (first | (go_at_call 104; refine (l01Name_eq _ (by assumption) _).mono ?_; rintro e w' ⟨rfl, rfl⟩) | (go_at_call 105; refine (l06Turn_eq _ _).mono ?_; rintro e w' ⟨rfl, rfl⟩) | (go_at_call 106; refine (l06Latitude_eq _ _).mono ?_; rintro e w' ⟨rfl, rfl⟩) | (go_at_call 86; refine (l00In_eq _ _ _ _).mono ?_; rintro e w' ⟨rfl, rfl⟩))
    go_ret
    exact ⟨ret_bool EE.out.symm, rfl⟩
theorem proj_dir {x : ProjectorD} (h : projB x = true) : (0 ≤ x.f1 ∧ x.f1 ≤ 359999) ∧ (-90000 ≤ x.f2 ∧ x.f2 ≤ 90000) ∧ (5000 ≤ x.f3 ∧ x.f3 ≤ 120000) ∧ (1 ≤ x.f4 ∧ x.f4 ≤ 1000) := by
  obtain ⟨_, h1, h2, h3, h4⟩ := projB_iff.1 h
  exact ⟨inB_iff.1 h1, inB_iff.1 h2, inB_iff.1 h3, inB_iff.1 h4⟩
set_option maxHeartbeats 2000000 in
theorem validProjector_any (x : ProjectorD) (w : World) (hok : ProjectorOk x) :
    Calls Tryd.prog 75 #[.agg #[.string x.f0, .int .i64 x.f1, .int .i64 x.f2, .int .i64 x.f3, .int .i64 x.f4]] w fun e w' => e = .returned (.bool (projB x)) ∧ Below w.heap.size w w' := by
  have g0 := hok.1
  clear hok
  rcases proj_split x with ⟨a0, E⟩ | ⟨a0, a1, E⟩ | ⟨a0, a1, a2, E⟩ | ⟨a0, a1, a2, a3, E⟩ | ⟨a0, a1, a2, a3, E⟩
  · have EE := Lib.hid E
    clear E
    go_enter Tryd.func75, Tryd.ntmps75
    go_wp2_with (first | (go_at_call 108; refine (isName_eq _ (by assumption) _).mono ?_; rintro e w' ⟨rfl, rfl⟩) | (go_at_call 109; refine (validDirection_eq _ _ _).mono ?_; rintro e w' ⟨rfl, rfl⟩) | (go_at_call 64; refine (within_eq _ _ _ _).mono ?_; rintro e w' ⟨rfl, rfl⟩))
    go_ret
    refine ⟨ret_bool EE.out.symm, ?_⟩
    repeat (first | with_reducible exact Below.refl _ _ | with_reducible assumption | with_reducible refine Below.setCell ?_ (by simp <;> omega) _ | with_reducible refine Below.alloc ?_ (by simp <;> omega) _ | with_reducible refine Below.drew ?_)
  · have EE := Lib.hid E
    clear E
    have dd := dirB_no1 (h := x.f2) a1
    go_enter Tryd.func75, Tryd.ntmps75
    go_wp2_with (first | (go_at_call 108; refine (isName_eq _ (by assumption) _).mono ?_; rintro e w' ⟨rfl, rfl⟩) | (go_at_call 109; refine (validDirection_eq _ _ _).mono ?_; rintro e w' ⟨rfl, rfl⟩) | (go_at_call 64; refine (within_eq _ _ _ _).mono ?_; rintro e w' ⟨rfl, rfl⟩))
    go_ret
    refine ⟨ret_bool EE.out.symm, ?_⟩
    repeat (first | with_reducible exact Below.refl _ _ | with_reducible assumption | with_reducible refine Below.setCell ?_ (by simp <;> omega) _ | with_reducible refine Below.alloc ?_ (by simp <;> omega) _ | with_reducible refine Below.drew ?_)
  all_goals
    have EE := Lib.hid E
    clear E
    have dd := dirB_eq (h := x.f2) a1
    rw [a2] at dd
    go_enter Tryd.func75, Tryd.ntmps75
    go_wp2_with (first | (go_at_call 108; refine (isName_eq _ (by assumption) _).mono ?_; rintro e w' ⟨rfl, rfl⟩) | (go_at_call 109; refine (validDirection_eq _ _ _).mono ?_; rintro e w' ⟨rfl, rfl⟩) | (go_at_call 64; refine (within_eq _ _ _ _).mono ?_; rintro e w' ⟨rfl, rfl⟩))
    go_ret
    refine ⟨ret_bool EE.out.symm, ?_⟩
    repeat (first | with_reducible exact Below.refl _ _ | with_reducible assumption | with_reducible refine Below.setCell ?_ (by simp <;> omega) _ | with_reducible refine Below.alloc ?_ (by simp <;> omega) _ | with_reducible refine Below.drew ?_)
/-- the order of strings: a comes ahead of b -/
def strLt (a b : ByteArray) : Prop := Go.Op.bytesLess a.toList b.toList = true
def ProjAt (l : Nat → ProjectorD) (k : Nat) : Prop := projB (l k) = true ∧ (0 < k → strLt (l (k - 1)).f0 (l k).f0)
def ProjsOk (n : Nat) (l : Nat → ProjectorD) : Prop := n ≤ 6 ∧ ∀ k, k < n → ProjAt l k
open Classical in
noncomputable def projsB (n : Nat) (l : Nat → ProjectorD) : Bool := decide (ProjsOk n l)
theorem projsB_no {n : Nat} {l : Nat → ProjectorD} (h : ¬ ProjsOk n l) : projsB n l = false := by simp [projsB, h]
theorem projsB_yes {n : Nat} {l : Nat → ProjectorD} (h : ProjsOk n l) : projsB n l = true := by simp [projsB, h]
theorem projsB_of {n : Nat} {l : Nat → ProjectorD} (h : projsB n l = true) : ProjsOk n l := by simpa [projsB] using h
end Go.Proofs.YtikonccofaiceaaDoor
