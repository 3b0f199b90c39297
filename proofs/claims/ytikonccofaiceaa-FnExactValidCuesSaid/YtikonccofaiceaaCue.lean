/- Cues: what the tests of the program and of the reference answer. Conditions: the sizes of strings; the slice reads as cues. -/
import Derived.Test.YtikonccofaiceaaName
namespace Go.Proofs.Ytikonccofaiceaa
open Go.RowKit Go.Lib Go.Ks

def CueOk1 (x : CueD) : Prop := NameOk x.f0 ∧ NameOk x.f3 ∧ inB x.f1 0 7200000 = true ∧ inB x.f5 0 1000 = true ∧ (x.f4 = 1 ∧ x.f2 = 0 ∨ x.f4 = 2 ∧ inB x.f2 1 (7200000 - x.f1) = true ∨ x.f4 = 3 ∧ x.f2 = 0 ∧ x.f5 = 0)
open Classical in
noncomputable def cueB (x : CueD) : Bool := decide (CueOk1 x)
theorem cueB_no {x : CueD} (h : ¬ CueOk1 x) : cueB x = false := by simp [cueB, h]
theorem cueB_yes {x : CueD} (h : CueOk1 x) : cueB x = true := by simp [cueB, h]
theorem cueB_iff {x : CueD} : cueB x = true ↔ CueOk1 x := by simp [cueB]
theorem l13Time_eq (n : Int) (w : World) :
    Calls Try.prog 46 #[.int .i64 n] w fun e w' => e = .returned (.bool (inB n 0 7200000)) ∧ w = w' := by
  go_enter Try.func46, Try.ntmps46
  go_wp2_with fail
  refine (l00In_eq _ _ _ _).mono ?_
  rintro e w1 ⟨rfl, rfl⟩
  go_wp2_with fail
  go_ret
  exact ⟨rfl, rfl⟩
/-- c1 .. c4: the tests ahead of the actions; r: what the switch answers -/
theorem cue_split (x : CueD) : (nameB x.f0 = false ∧ cueB x = false) ∨ (nameB x.f0 = true ∧ nameB x.f3 = false ∧ cueB x = false) ∨ (nameB x.f0 = true ∧ nameB x.f3 = true ∧ inB x.f1 0 7200000 = false ∧ cueB x = false) ∨
    (nameB x.f0 = true ∧ nameB x.f3 = true ∧ inB x.f1 0 7200000 = true ∧ inB x.f5 0 1000 = false ∧ cueB x = false) ∨
    (nameB x.f0 = true ∧ nameB x.f3 = true ∧ inB x.f1 0 7200000 = true ∧ inB x.f5 0 1000 = true ∧ ((x.f4 = 1 ∧ x.f2 = 0 ∧ cueB x = true) ∨ (x.f4 = 1 ∧ x.f2 ≠ 0 ∧ cueB x = false) ∨ (x.f4 = 2 ∧ cueB x = inB x.f2 1 (7200000 - x.f1)) ∨ (x.f4 = 3 ∧ x.f2 ≠ 0 ∧ cueB x = false) ∨ (x.f4 = 3 ∧ x.f2 = 0 ∧ x.f5 ≠ 0 ∧ cueB x = false) ∨ (x.f4 = 3 ∧ x.f2 = 0 ∧ x.f5 = 0 ∧ cueB x = true) ∨ (x.f4 ≠ 1 ∧ x.f4 ≠ 2 ∧ x.f4 ≠ 3 ∧ cueB x = false))) := by
  cases h0 : nameB x.f0
  · exact .inl ⟨rfl, cueB_no (fun h => by rw [nameB_yes h.1] at h0; cases h0)⟩
  refine .inr ?_
  cases h3 : nameB x.f3
  · exact .inl ⟨rfl, rfl, cueB_no (fun h => by rw [nameB_yes h.2.1] at h3; cases h3)⟩
  refine .inr ?_
  cases h1 : inB x.f1 0 7200000
  · exact .inl ⟨rfl, rfl, rfl, cueB_no (fun h => by rw [h.2.2.1] at h1; cases h1)⟩
  refine .inr ?_
  cases h5 : inB x.f5 0 1000
  · exact .inl ⟨rfl, rfl, rfl, rfl, cueB_no (fun h => by rw [h.2.2.2.1] at h5; cases h5)⟩
  refine .inr ⟨rfl, rfl, rfl, rfl, ?_⟩
  have hn0 := nameB_iff.1 h0
  have hn3 := nameB_iff.1 h3
  have hno : ¬ (x.f4 = 1 ∧ x.f2 = 0 ∨ x.f4 = 2 ∧ inB x.f2 1 (7200000 - x.f1) = true ∨ x.f4 = 3 ∧ x.f2 = 0 ∧ x.f5 = 0) → cueB x = false := fun h => cueB_no (fun hh => h hh.2.2.2.2)
  by_cases a1 : x.f4 = 1
  · by_cases b : x.f2 = 0
    · exact .inl ⟨a1, b, cueB_yes ⟨hn0, hn3, h1, h5, .inl ⟨a1, b⟩⟩⟩
    · exact .inr (.inl ⟨a1, b, hno (by omega)⟩)
  refine .inr (.inr ?_)
  by_cases a2 : x.f4 = 2
  · refine .inl ⟨a2, ?_⟩
    cases h2 : inB x.f2 1 (7200000 - x.f1)
    · exact hno (fun h => by rcases h with h | h | h; omega; rw [h.2] at h2; cases h2; omega)
    · exact cueB_yes ⟨hn0, hn3, h1, h5, .inr (.inl ⟨a2, h2⟩)⟩
  refine .inr ?_
  by_cases a3 : x.f4 = 3
  · by_cases b : x.f2 = 0
    · by_cases c : x.f5 = 0
      · exact .inr (.inr (.inl ⟨a3, b, c, cueB_yes ⟨hn0, hn3, h1, h5, .inr (.inr ⟨a3, b, c⟩)⟩⟩))
      · exact .inr (.inl ⟨a3, b, c, hno (by omega)⟩)
    · exact .inl ⟨a3, b, hno (by omega)⟩
  · exact .inr (.inr (.inr ⟨a1, a2, a3, hno (by omega)⟩))
def isSet (x : CueD) : Prop := x.f4 = 1
theorem ne_beq {a b : Int} (h : a ≠ b) : (a == b) = false := by simpa using h
theorem eq_beq {a b : Int} (h : a = b) : (a == b) = true := by simpa using h
set_option maxHeartbeats 2000000 in
theorem l13One_any (b o : Nat) (x : CueD) (w : World) (hx : CueAt w b o x) (hok : CueOk x) :
    Calls Try.prog 28 #[.pointer (some ⟨b, o, none⟩)] w fun e w' => e = .returned (.bool (cueB x)) ∧ Below w.heap.size w w' := by
  obtain ⟨hlt, c0, c1, c2, c3, c4, c5⟩ := hx
  obtain ⟨g0, ⟨g1, g1'⟩, ⟨g2, g2'⟩, g3, ⟨g4, g4'⟩, g5, g5'⟩ := hok
  rcases cue_split x with ⟨a0, E⟩ | ⟨a0, a1, E⟩ | ⟨a0, a1, a2, E⟩ | ⟨a0, a1, a2, a3, E⟩ | ⟨a0, a1, a2, a3, h⟩
  · have EE := Lib.hid E
    clear E
    go_enter Try.func28, Try.ntmps28
    go_wp2_with (first | (go_at_call 45; refine (l01Name_eq _ (by assumption) _).mono ?_; rintro e w' ⟨rfl, rfl⟩) | (go_at_call 47; refine (l00In_eq _ _ _ _).mono ?_; rintro e w' ⟨rfl, rfl⟩) | (go_at_call 46; refine (l13Time_eq _ _).mono ?_; rintro e w' ⟨rfl, rfl⟩))
    go_ret
    exact ⟨ret_bool EE.out.symm, Below.refl _ _⟩
  · have EE := Lib.hid E
    clear E
    go_enter Try.func28, Try.ntmps28
    go_wp2_with (first | (go_at_call 45; refine (l01Name_eq _ (by assumption) _).mono ?_; rintro e w' ⟨rfl, rfl⟩) | (go_at_call 47; refine (l00In_eq _ _ _ _).mono ?_; rintro e w' ⟨rfl, rfl⟩) | (go_at_call 46; refine (l13Time_eq _ _).mono ?_; rintro e w' ⟨rfl, rfl⟩))
    go_ret
    exact ⟨ret_bool EE.out.symm, Below.refl _ _⟩
  · have EE := Lib.hid E
    clear E
    go_enter Try.func28, Try.ntmps28
    go_wp2_with (first | (go_at_call 45; refine (l01Name_eq _ (by assumption) _).mono ?_; rintro e w' ⟨rfl, rfl⟩) | (go_at_call 47; refine (l00In_eq _ _ _ _).mono ?_; rintro e w' ⟨rfl, rfl⟩) | (go_at_call 46; refine (l13Time_eq _ _).mono ?_; rintro e w' ⟨rfl, rfl⟩))
    go_ret
    exact ⟨ret_bool EE.out.symm, Below.refl _ _⟩
  · have EE := Lib.hid E
    clear E
    go_enter Try.func28, Try.ntmps28
    go_wp2_with (first | (go_at_call 45; refine (l01Name_eq _ (by assumption) _).mono ?_; rintro e w' ⟨rfl, rfl⟩) | (go_at_call 47; refine (l00In_eq _ _ _ _).mono ?_; rintro e w' ⟨rfl, rfl⟩) | (go_at_call 46; refine (l13Time_eq _ _).mono ?_; rintro e w' ⟨rfl, rfl⟩))
    go_ret
    exact ⟨ret_bool EE.out.symm, Below.refl _ _⟩
  have i1 := inB_lo a2
  have i2 := inB_hi a2
  rcases h with ⟨r0, r1, E⟩ | ⟨r0, r1, E⟩ | ⟨r0, E⟩ | ⟨r0, r1, E⟩ | ⟨r0, r1, r2, E⟩ | ⟨r0, r1, r2, E⟩ | ⟨r0, r1, r2, E⟩
  · have EE := Lib.hid E
    clear E
    go_enter Try.func28, Try.ntmps28
    go_wp2_with (first | (go_at_call 45; refine (l01Name_eq _ (by assumption) _).mono ?_; rintro e w' ⟨rfl, rfl⟩) | (go_at_call 47; refine (l00In_eq _ _ _ _).mono ?_; rintro e w' ⟨rfl, rfl⟩) | (go_at_call 46; refine (l13Time_eq _ _).mono ?_; rintro e w' ⟨rfl, rfl⟩))
    go_ret
    exact ⟨ret_bool EE.out.symm, Below.refl _ _⟩
  · have EE := Lib.hid E
    clear E
    have r1' := ne_beq r1
    go_enter Try.func28, Try.ntmps28
    go_wp2_with (first | (go_at_call 45; refine (l01Name_eq _ (by assumption) _).mono ?_; rintro e w' ⟨rfl, rfl⟩) | (go_at_call 47; refine (l00In_eq _ _ _ _).mono ?_; rintro e w' ⟨rfl, rfl⟩) | (go_at_call 46; refine (l13Time_eq _ _).mono ?_; rintro e w' ⟨rfl, rfl⟩))
    go_ret
    exact ⟨ret_bool EE.out.symm, Below.refl _ _⟩
  · have EE := Lib.hid E
    clear E
    go_enter Try.func28, Try.ntmps28
    go_wp2_with (first | (go_at_call 45; refine (l01Name_eq _ (by assumption) _).mono ?_; rintro e w' ⟨rfl, rfl⟩) | (go_at_call 47; refine (l00In_eq _ _ _ _).mono ?_; rintro e w' ⟨rfl, rfl⟩) | (go_at_call 46; refine (l13Time_eq _ _).mono ?_; rintro e w' ⟨rfl, rfl⟩))
    refine wp_region_ext (by kernel_rfl) (by kernel_rfl) ?_
    repeat (go_big_quiet_step ((first | (go_at_call 47; exact quiet_ext ((l00In_eq _ _ _ _).mono fun _ _ h => ⟨h.1, h.2 ▸ Below.refl _ _⟩)))))
    refine wpQuiet_nil ?_
    intro e1
    have hb1 := e1.below
    go_wp2_with fail
    go_ret
    exact ⟨ret_bool EE.out.symm, hb1⟩
  · have EE := Lib.hid E
    clear E
    have r1' := ne_beq r1
    go_enter Try.func28, Try.ntmps28
    go_wp2_with (first | (go_at_call 45; refine (l01Name_eq _ (by assumption) _).mono ?_; rintro e w' ⟨rfl, rfl⟩) | (go_at_call 47; refine (l00In_eq _ _ _ _).mono ?_; rintro e w' ⟨rfl, rfl⟩) | (go_at_call 46; refine (l13Time_eq _ _).mono ?_; rintro e w' ⟨rfl, rfl⟩))
    go_ret
    exact ⟨ret_bool EE.out.symm, Below.refl _ _⟩
  · have EE := Lib.hid E
    clear E
    have r2' := ne_beq r2
    go_enter Try.func28, Try.ntmps28
    go_wp2_with (first | (go_at_call 45; refine (l01Name_eq _ (by assumption) _).mono ?_; rintro e w' ⟨rfl, rfl⟩) | (go_at_call 47; refine (l00In_eq _ _ _ _).mono ?_; rintro e w' ⟨rfl, rfl⟩) | (go_at_call 46; refine (l13Time_eq _ _).mono ?_; rintro e w' ⟨rfl, rfl⟩))
    go_ret
    exact ⟨ret_bool EE.out.symm, Below.refl _ _⟩
  · have EE := Lib.hid E
    clear E
    go_enter Try.func28, Try.ntmps28
    go_wp2_with (first | (go_at_call 45; refine (l01Name_eq _ (by assumption) _).mono ?_; rintro e w' ⟨rfl, rfl⟩) | (go_at_call 47; refine (l00In_eq _ _ _ _).mono ?_; rintro e w' ⟨rfl, rfl⟩) | (go_at_call 46; refine (l13Time_eq _ _).mono ?_; rintro e w' ⟨rfl, rfl⟩))
    go_ret
    exact ⟨ret_bool EE.out.symm, Below.refl _ _⟩
  · have EE := Lib.hid E
    clear E
    have r0' := ne_beq r0
    have r1' := ne_beq r1
    have r2' := ne_beq r2
    go_enter Try.func28, Try.ntmps28
    go_wp2_with (first | (go_at_call 45; refine (l01Name_eq _ (by assumption) _).mono ?_; rintro e w' ⟨rfl, rfl⟩) | (go_at_call 47; refine (l00In_eq _ _ _ _).mono ?_; rintro e w' ⟨rfl, rfl⟩) | (go_at_call 46; refine (l13Time_eq _ _).mono ?_; rintro e w' ⟨rfl, rfl⟩))
    go_ret
    exact ⟨ret_bool EE.out.symm, Below.refl _ _⟩
set_option maxHeartbeats 2000000 in
theorem implValidCue_any (x0 : ByteArray) (x1 x2 : Int) (x3 : ByteArray) (x4 x5 : Int) (w : World) (g0 : x0.size ≤ 9223372036854775807) (y1 : -9223372036854775808 ≤ x1 ∧ x1 ≤ 9223372036854775807) (y2 : -9223372036854775808 ≤ x2 ∧ x2 ≤ 9223372036854775807) (g3 : x3.size ≤ 9223372036854775807) (_y4 : -9223372036854775808 ≤ x4 ∧ x4 ≤ 9223372036854775807) (_y5 : -9223372036854775808 ≤ x5 ∧ x5 ≤ 9223372036854775807) :
    Calls Try.prog 11 #[.agg #[.string x0, .int .i64 x1, .int .i64 x2, .string x3, .int .i64 x4, .int .i64 x5]] w fun e w' => e = .returned (.bool (cueB ⟨x0, x1, x2, x3, x4, x5⟩)) ∧ Below w.heap.size w w' := by
  obtain ⟨g1, g1'⟩ := y1
  obtain ⟨g2, g2'⟩ := y2
  have hsp := cue_split ⟨x0, x1, x2, x3, x4, x5⟩
  rcases hsp with ⟨a0, E⟩ | ⟨a0, a1, E⟩ | ⟨a0, a1, a2, E⟩ | ⟨a0, a1, a2, a3, E⟩ | ⟨a0, a1, a2, a3, h⟩
  · have EE := Lib.hid E
    clear E
    go_enter Try.func11, Try.ntmps11
    go_wp2_with (first | (go_at_call 29; refine (isName_eq _ (by assumption) _).mono ?_; rintro e w' ⟨rfl, rfl⟩) | (go_at_call 30; refine (within_eq _ _ _ _).mono ?_; rintro e w' ⟨rfl, rfl⟩))
    go_ret
    refine ⟨ret_bool EE.out.symm, ?_⟩
    repeat (first | with_reducible exact Below.refl _ _ | with_reducible assumption | with_reducible refine Below.setCell ?_ (by simp <;> omega) _ | with_reducible refine Below.alloc ?_ (by simp <;> omega) _ | with_reducible refine Below.drew ?_)
  · have EE := Lib.hid E
    clear E
    go_enter Try.func11, Try.ntmps11
    go_wp2_with (first | (go_at_call 29; refine (isName_eq _ (by assumption) _).mono ?_; rintro e w' ⟨rfl, rfl⟩) | (go_at_call 30; refine (within_eq _ _ _ _).mono ?_; rintro e w' ⟨rfl, rfl⟩))
    go_ret
    refine ⟨ret_bool EE.out.symm, ?_⟩
    repeat (first | with_reducible exact Below.refl _ _ | with_reducible assumption | with_reducible refine Below.setCell ?_ (by simp <;> omega) _ | with_reducible refine Below.alloc ?_ (by simp <;> omega) _ | with_reducible refine Below.drew ?_)
  · have EE := Lib.hid E
    clear E
    go_enter Try.func11, Try.ntmps11
    go_wp2_with (first | (go_at_call 29; refine (isName_eq _ (by assumption) _).mono ?_; rintro e w' ⟨rfl, rfl⟩) | (go_at_call 30; refine (within_eq _ _ _ _).mono ?_; rintro e w' ⟨rfl, rfl⟩))
    go_ret
    refine ⟨ret_bool EE.out.symm, ?_⟩
    repeat (first | with_reducible exact Below.refl _ _ | with_reducible assumption | with_reducible refine Below.setCell ?_ (by simp <;> omega) _ | with_reducible refine Below.alloc ?_ (by simp <;> omega) _ | with_reducible refine Below.drew ?_)
  · have EE := Lib.hid E
    clear E
    go_enter Try.func11, Try.ntmps11
    go_wp2_with (first | (go_at_call 29; refine (isName_eq _ (by assumption) _).mono ?_; rintro e w' ⟨rfl, rfl⟩) | (go_at_call 30; refine (within_eq _ _ _ _).mono ?_; rintro e w' ⟨rfl, rfl⟩))
    go_ret
    refine ⟨ret_bool EE.out.symm, ?_⟩
    repeat (first | with_reducible exact Below.refl _ _ | with_reducible assumption | with_reducible refine Below.setCell ?_ (by simp <;> omega) _ | with_reducible refine Below.alloc ?_ (by simp <;> omega) _ | with_reducible refine Below.drew ?_)
  have i1 := inB_lo a2
  have i2 := inB_hi a2
  rcases h with ⟨r0, r1, E⟩ | ⟨r0, r1, E⟩ | ⟨r0, E⟩ | ⟨r0, r1, E⟩ | ⟨r0, r1, r2, E⟩ | ⟨r0, r1, r2, E⟩ | ⟨r0, r1, r2, E⟩
  · have EE := Lib.hid E
    clear E
    go_enter Try.func11, Try.ntmps11
    go_wp2_with (first | (go_at_call 29; refine (isName_eq _ (by assumption) _).mono ?_; rintro e w' ⟨rfl, rfl⟩) | (go_at_call 30; refine (within_eq _ _ _ _).mono ?_; rintro e w' ⟨rfl, rfl⟩))
    go_ret
    refine ⟨ret_bool EE.out.symm, ?_⟩
    repeat (first | with_reducible exact Below.refl _ _ | with_reducible assumption | with_reducible refine Below.setCell ?_ (by simp <;> omega) _ | with_reducible refine Below.alloc ?_ (by simp <;> omega) _ | with_reducible refine Below.drew ?_)
  · have EE := Lib.hid E
    clear E
    have r1' := ne_beq r1
    go_enter Try.func11, Try.ntmps11
    go_wp2_with (first | (go_at_call 29; refine (isName_eq _ (by assumption) _).mono ?_; rintro e w' ⟨rfl, rfl⟩) | (go_at_call 30; refine (within_eq _ _ _ _).mono ?_; rintro e w' ⟨rfl, rfl⟩))
    go_ret
    refine ⟨ret_bool EE.out.symm, ?_⟩
    repeat (first | with_reducible exact Below.refl _ _ | with_reducible assumption | with_reducible refine Below.setCell ?_ (by simp <;> omega) _ | with_reducible refine Below.alloc ?_ (by simp <;> omega) _ | with_reducible refine Below.drew ?_)
  · have EE := Lib.hid E
    clear E
    go_enter Try.func11, Try.ntmps11
    go_wp2_with (first | (go_at_call 29; refine (isName_eq _ (by assumption) _).mono ?_; rintro e w' ⟨rfl, rfl⟩) | (go_at_call 30; refine (within_eq _ _ _ _).mono ?_; rintro e w' ⟨rfl, rfl⟩))
    go_ret
    refine ⟨ret_bool EE.out.symm, ?_⟩
    repeat (first | with_reducible exact Below.refl _ _ | with_reducible assumption | with_reducible refine Below.setCell ?_ (by simp <;> omega) _ | with_reducible refine Below.alloc ?_ (by simp <;> omega) _ | with_reducible refine Below.drew ?_)
  · have EE := Lib.hid E
    clear E
    have r1' := ne_beq r1
    go_enter Try.func11, Try.ntmps11
    go_wp2_with (first | (go_at_call 29; refine (isName_eq _ (by assumption) _).mono ?_; rintro e w' ⟨rfl, rfl⟩) | (go_at_call 30; refine (within_eq _ _ _ _).mono ?_; rintro e w' ⟨rfl, rfl⟩))
    go_ret
    refine ⟨ret_bool EE.out.symm, ?_⟩
    repeat (first | with_reducible exact Below.refl _ _ | with_reducible assumption | with_reducible refine Below.setCell ?_ (by simp <;> omega) _ | with_reducible refine Below.alloc ?_ (by simp <;> omega) _ | with_reducible refine Below.drew ?_)
  · have EE := Lib.hid E
    clear E
    have r2' := ne_beq r2
    go_enter Try.func11, Try.ntmps11
    go_wp2_with (first | (go_at_call 29; refine (isName_eq _ (by assumption) _).mono ?_; rintro e w' ⟨rfl, rfl⟩) | (go_at_call 30; refine (within_eq _ _ _ _).mono ?_; rintro e w' ⟨rfl, rfl⟩))
    go_ret
    refine ⟨ret_bool EE.out.symm, ?_⟩
    repeat (first | with_reducible exact Below.refl _ _ | with_reducible assumption | with_reducible refine Below.setCell ?_ (by simp <;> omega) _ | with_reducible refine Below.alloc ?_ (by simp <;> omega) _ | with_reducible refine Below.drew ?_)
  · have EE := Lib.hid E
    clear E
    go_enter Try.func11, Try.ntmps11
    go_wp2_with (first | (go_at_call 29; refine (isName_eq _ (by assumption) _).mono ?_; rintro e w' ⟨rfl, rfl⟩) | (go_at_call 30; refine (within_eq _ _ _ _).mono ?_; rintro e w' ⟨rfl, rfl⟩))
    go_ret
    refine ⟨ret_bool EE.out.symm, ?_⟩
    repeat (first | with_reducible exact Below.refl _ _ | with_reducible assumption | with_reducible refine Below.setCell ?_ (by simp <;> omega) _ | with_reducible refine Below.alloc ?_ (by simp <;> omega) _ | with_reducible refine Below.drew ?_)
  · have EE := Lib.hid E
    clear E
    have r0' := ne_beq r0
    have r1' := ne_beq r1
    have r2' := ne_beq r2
    go_enter Try.func11, Try.ntmps11
    go_wp2_with (first | (go_at_call 29; refine (isName_eq _ (by assumption) _).mono ?_; rintro e w' ⟨rfl, rfl⟩) | (go_at_call 30; refine (within_eq _ _ _ _).mono ?_; rintro e w' ⟨rfl, rfl⟩))
    go_ret
    refine ⟨ret_bool EE.out.symm, ?_⟩
    repeat (first | with_reducible exact Below.refl _ _ | with_reducible assumption | with_reducible refine Below.setCell ?_ (by simp <;> omega) _ | with_reducible refine Below.alloc ?_ (by simp <;> omega) _ | with_reducible refine Below.drew ?_)
theorem specValidCue_any (x0 : ByteArray) (x1 x2 : Int) (x3 : ByteArray) (x4 x5 : Int) (w : World) (g0 : x0.size ≤ 9223372036854775807) (y1 : -9223372036854775808 ≤ x1 ∧ x1 ≤ 9223372036854775807) (y2 : -9223372036854775808 ≤ x2 ∧ x2 ≤ 9223372036854775807) (g3 : x3.size ≤ 9223372036854775807) (y4 : -9223372036854775808 ≤ x4 ∧ x4 ≤ 9223372036854775807) (y5 : -9223372036854775808 ≤ x5 ∧ x5 ≤ 9223372036854775807) :
    Calls Try.prog 9 #[.agg #[.string x0, .int .i64 x1, .int .i64 x2, .string x3, .int .i64 x4, .int .i64 x5]] w fun e w' => e = .returned (.bool (cueB ⟨x0, x1, x2, x3, x4, x5⟩)) ∧ Below w.heap.size w w' := by
  go_enter Try.func9, Try.ntmps9
  go_wp2_with fail
  have hb : Below w.heap.size w (w.alloc (.cells #[.string x0, .int .i64 x1, .int .i64 x2, .string x3, .int .i64 x4, .int .i64 x5] 26)) := (Below.refl _ _).alloc (Nat.le_refl _) _
  have hx : CueAt (w.alloc (.cells #[.string x0, .int .i64 x1, .int .i64 x2, .string x3, .int .i64 x4, .int .i64 x5] 26)) w.heap.size 0 ⟨x0, x1, x2, x3, x4, x5⟩ := by
    have k := Blk.new w 26 #[.string x0, .int .i64 x1, .int .i64 x2, .string x3, .int .i64 x4, .int .i64 x5]
    exact ⟨k.lt, k.cell 0, k.cell 1, k.cell 2, k.cell 3, k.cell 4, k.cell 5⟩
  refine (l13One_any _ 0 ⟨x0, x1, x2, x3, x4, x5⟩ _ hx ⟨g0, y1, y2, g3, y4, y5⟩).mono ?_
  rintro e w1 ⟨rfl, hb1⟩
  go_wp2_with fail
  go_ret
  exact ⟨rfl, hb.trans (hb1.mono hb.size)⟩
end Go.Proofs.Ytikonccofaiceaa
