/- DomeText. Conditions: the sizes of strings; the library's table of powers of ten lies. -/
import Derived.Test.YtikonccofaiceaaDoorText
import Derived.Test.YtikonccofaiceaaDoorShelfJ
import Derived.Test.YtikonccofaiceaaDoorName
import Derived.LoopN
import Derived.Deep.RegionHeld3
namespace Go.Ks
/-- the text of two numbers -/
def list2 (a b : Int) : ByteArray := decB a ++ (⟨#[44]⟩ : ByteArray) ++ decB b
/-- the text of a dome -/
def domeTx (x : DomeD) : ByteArray := x.f0 ++ (⟨#[32]⟩ : ByteArray) ++ list2 x.f1 x.f2
theorem list2_size {a b : Int} (ha : -9223372036854775808 ≤ a ∧ a ≤ 9223372036854775807) (hb : -9223372036854775808 ≤ b ∧ b ≤ 9223372036854775807) : (list2 a b).size ≤ 43 := by
  have h1 := decB_size ha
  have h2 := decB_size hb
  unfold list2
  rw [ByteArray.size_append, ByteArray.size_append]
  have : (⟨#[44]⟩ : ByteArray).size = 1 := rfl
  omega
theorem join2 (a b : ByteArray) (s : UInt8) : (⟨(Lib.join ([a, b].map (·.data.toList)) (⟨#[s]⟩ : ByteArray).data.toList).toArray⟩ : ByteArray) = a ++ (⟨#[s]⟩ : ByteArray) ++ b := by
  apply ByteArray.ext
  rw [ByteArray.data_append, ByteArray.data_append]
  simp [Lib.join, List.intercalate]
theorem join2_len (a b : ByteArray) (s : UInt8) : (Lib.join ([a, b].map (·.data.toList)) (⟨#[s]⟩ : ByteArray).data.toList).length = a.size + 1 + b.size := by
  simp [Lib.join, List.intercalate]
  omega
end Go.Ks
namespace Go.Proofs.YtikonccofaiceaaDoor
open Go.RowKit Go.Lib Go.Ks
theorem name_size {s : ByteArray} (h : NameOk s) : s.size ≤ 32 := by
  have := h.2.1
  omega
theorem b_cases (b : Bool) : b = false ∨ b = true := by cases b <;> simp
/-- a valid dome -/
def DomeOk1 (x : DomeD) : Prop := NameOk x.f0 ∧ inB x.f1 1000 30000 = true ∧ inB x.f2 0 45000 = true
open Classical in
noncomputable def domeB (x : DomeD) : Bool := decide (DomeOk1 x)
theorem domeB_no {x : DomeD} (h : ¬ DomeOk1 x) : domeB x = false := by simp [domeB, h]
theorem domeB_yes {x : DomeD} (h : DomeOk1 x) : domeB x = true := by simp [domeB, h]
theorem domeB_iff {x : DomeD} : domeB x = true ↔ DomeOk1 x := by simp [domeB]
theorem dome_nums {x : DomeD} (h : domeB x = true) : (1000 ≤ x.f1 ∧ x.f1 ≤ 30000) ∧ 0 ≤ x.f2 ∧ x.f2 ≤ 45000 := ⟨inB_iff.1 (domeB_iff.1 h).2.1, inB_iff.1 (domeB_iff.1 h).2.2⟩
theorem dome_split (x : DomeD) : (nameB x.f0 = false ∧ domeB x = false) ∨ (nameB x.f0 = true ∧ inB x.f1 1000 30000 = false ∧ domeB x = false) ∨ (nameB x.f0 = true ∧ inB x.f1 1000 30000 = true ∧ domeB x = inB x.f2 0 45000) := by
  cases h0 : nameB x.f0
  · exact .inl ⟨rfl, domeB_no (fun h => by rw [nameB_yes h.1] at h0; cases h0)⟩
  refine .inr ?_
  cases h1 : inB x.f1 1000 30000
  · exact .inl ⟨rfl, rfl, domeB_no (fun h => by rw [h.2.1] at h1; cases h1)⟩
  refine .inr ⟨rfl, rfl, ?_⟩
  cases h2 : inB x.f2 0 45000
  · exact domeB_no (fun h => by rw [h.2.2] at h2; cases h2)
  · exact domeB_yes ⟨nameB_iff.1 h0, h1, h2⟩
noncomputable def mDT (x : DomeD) : ByteArray := if domeB x = true then domeTx x else ⟨#[]⟩
set_option maxHeartbeats 1000000 in
theorem l09Ok_any (b o : Nat) (x : DomeD) (w : World) (hx : DomeAt w b o x) (hok : x.f0.size ≤ 9223372036854775807) :
    Calls Tryd.prog 77 #[.pointer (some ⟨b, o, none⟩)] w fun e w' => e = .returned (.bool (domeB x)) ∧ w = w' := by
  obtain ⟨hlt, c0, c1, c2⟩ := hx
  rcases dome_split x with ⟨a0, E⟩ | ⟨a0, a1, E⟩ | ⟨a0, a1, E⟩
  all_goals
    have EE := Lib.hid E
    clear E
    go_enter Tryd.func77, Tryd.ntmps77
    go_wp2_with (first | (go_at_call 104; refine (l01Name_eq _ (by assumption) _).mono ?_; rintro e w' ⟨rfl, rfl⟩) | (go_at_call 86; refine (l00In_eq _ _ _ _).mono ?_; rintro e w' ⟨rfl, rfl⟩))
    go_ret
    exact ⟨ret_bool EE.out.symm, rfl⟩
set_option maxHeartbeats 1000000 in
theorem validDome_any (x : DomeD) (w : World) (hok : x.f0.size ≤ 9223372036854775807) :
    Calls Tryd.prog 79 #[.agg #[.string x.f0, .int .i64 x.f1, .int .i64 x.f2]] w fun e w' => e = .returned (.bool (domeB x)) ∧ Below w.heap.size w w' := by
  rcases dome_split x with ⟨a0, E⟩ | ⟨a0, a1, E⟩ | ⟨a0, a1, E⟩
  all_goals
    have EE := Lib.hid E
    clear E
    go_enter Tryd.func79, Tryd.ntmps79
    go_wp2_with (first | (go_at_call 108; refine (isName_eq _ (by assumption) _).mono ?_; rintro e w' ⟨rfl, rfl⟩) | (go_at_call 64; refine (within_eq _ _ _ _).mono ?_; rintro e w' ⟨rfl, rfl⟩))
    go_ret
    refine ⟨ret_bool EE.out.symm, ?_⟩
    repeat (first | with_reducible exact Below.refl _ _ | with_reducible assumption | with_reducible refine Below.setCell ?_ (by simp <;> omega) _ | with_reducible refine Below.alloc ?_ (by simp <;> omega) _ | with_reducible refine Below.drew ?_)
set_option maxRecDepth 100000 in
set_option maxHeartbeats 2000000 in
theorem l01List_two (b : Nat) (x y : Int) (w : World) (hb : Blk w b 2 #[.int .i64 x, .int .i64 y]) (hx : -9223372036854775808 ≤ x ∧ x ≤ 9223372036854775807) (hy : -9223372036854775808 ≤ y ∧ y ≤ 9223372036854775807) :
    Calls Tryd.prog 111 #[.slice (some ⟨b, 0, none⟩) 2 2] w fun e w' => e = .returned (.string (list2 x y)) ∧ Below w.heap.size w w' := by
  have s1 := decB_size hx
  have s2 := decB_size hy
  have HX := Lib.hid hx
  have HY := Lib.hid hy
  clear hx hy
  have c0 := hb.cell 0
  have c1 := hb.cell 1
  simp at c0 c1
  have cl := hb.lt
  go_enter Tryd.func111, Tryd.ntmps111
  go_wp2_with fail
  refine wp_loop_rounds 3 ?_
  rw [rounds_succ]
  go_wp2_with fail
  refine (l01Dec_any _ HX.out _).mono ?_
  rintro e w1 ⟨rfl, hb1⟩
  have k1 := hb.below hb1 hb.lt
  clear c0 c1 cl
  have d0 := k1.cell 0
  have d1 := k1.cell 1
  simp at d0 d1
  have dl := k1.lt
  go_wp2_with fail
  rw [rounds_succ]
  go_wp2_with fail
  refine (l01Dec_any _ HY.out _).mono ?_
  rintro e w2 ⟨rfl, hb2⟩
  go_wp2_with fail
  rw [rounds_succ]
  go_wp2_with fail
  go_ret
  exact ⟨rfl, hb1.trans (hb2.mono hb1.size)⟩
set_option maxRecDepth 100000 in
set_option maxHeartbeats 2000000 in
theorem l09Text_any (b o : Nat) (x : DomeD) (w : World) (hx : DomeAt w b o x) (hok : domeB x = true) :
    Calls Tryd.prog 78 #[.pointer (some ⟨b, o, none⟩)] w fun e w' => e = .returned (.string (domeTx x)) ∧ Below w.heap.size w w' := by
  obtain ⟨hlt, c0, c1, c2⟩ := hx
  have ns := name_size (domeB_iff.1 hok).1
  obtain ⟨⟨a1, a2⟩, a3, a4⟩ := dome_nums hok
  have s1 := list2_size (a := x.f1) (b := x.f2) (by omega) (by omega)
  have E := Lib.hid (show domeTx x = _ from rfl)
  have ks : ∀ w' : World, Below w.heap.size w w' → w'.cell? ⟨b, o, none⟩ = some (.string x.f0) ∧ w'.cell? ⟨b, o + 1, none⟩ = some (.int .i64 x.f1) ∧ w'.cell? ⟨b, o + 2, none⟩ = some (.int .i64 x.f2) := fun w' h => ⟨(h.cell hlt).trans c0, (h.cell hlt).trans c1, (h.cell hlt).trans c2⟩
  have KS := Lib.hid ks
  have R1 := Lib.hid (show -9223372036854775808 ≤ x.f1 ∧ x.f1 ≤ 9223372036854775807 by omega)
  have R2 := Lib.hid (show -9223372036854775808 ≤ x.f2 ∧ x.f2 ≤ 9223372036854775807 by omega)
  clear ks hok
  have q1 : ¬ (9223372036854775807 < x.f0.size + 1) := by omega
  have q2 : ¬ (9223372036854775806 < x.f0.size) := by omega
  have q3 : ¬ (9223372036854775807 < x.f0.size + 1 + (list2 x.f1 x.f2).size) := by omega
  go_enter Tryd.func78, Tryd.ntmps78
  go_wp2_with fail
  go_region_held3 (fun w' => w'.cell? ⟨b, o, none⟩ = some (.string x.f0) ∧ w'.cell? ⟨b, o + 1, none⟩ = some (.int .i64 x.f1) ∧ w'.cell? ⟨b, o + 2, none⟩ = some (.int .i64 x.f2))
    (exact KS.out _ (by repeat (first | with_reducible exact Below.refl _ _ | with_reducible assumption | with_reducible refine Below.setCell ?_ (by first | omega | (simp <;> omega)) _ | with_reducible refine Below.alloc ?_ (by first | omega | (simp <;> omega)) _ | with_reducible refine Below.drew ?_)))
    (first
      | (go_at_call 111; refine (l01List_two _ _ _ _ (Blk.drew (Blk.new w _ _)) R1.out R2.out).mono ?_; rintro e vX ⟨rfl, FX⟩; have TX : Below w.heap.size w vX := below_then (by repeat (first | with_reducible exact Below.refl _ _ | with_reducible assumption | with_reducible refine Below.setCell ?_ (by first | omega | (simp <;> omega)) _ | with_reducible refine Below.alloc ?_ (by first | omega | (simp <;> omega)) _ | with_reducible refine Below.drew ?_)) FX; have sX := TX.size))
  all_goals (try go_wp2_with fail)
  all_goals go_ret
  all_goals exact ⟨rfl, by repeat (first | with_reducible exact Below.refl _ _ | with_reducible assumption | with_reducible refine Below.setCell ?_ (by first | omega | (simp <;> omega)) _ | with_reducible refine Below.alloc ?_ (by first | omega | (simp <;> omega)) _ | with_reducible refine Below.drew ?_)⟩
theorem Tryd.infoStr : (Tryd.prog.info? 9).map (fun i => (i.zero, i.size, i.bytes)) = some (some (.string ⟨#[]⟩), 1, 16) := by kernel_rfl
theorem make_two (W : World) : (Instr.makeSlice 82 (.int .i64 2) (.int .i64 2)).run Tryd.prog W = .ok (.slice (some ⟨W.heap.size, 0, none⟩) 2 2) (W.alloc (.cells #[.string ⟨#[]⟩, .string ⟨#[]⟩] 9)) := by
  obtain ⟨i0, hi, hz0, hz1, hz2⟩ := info_parts Tryd.infoStr
  have h := run_make_rowN (P := Tryd.prog) 82 9 i0 _ Tryd.underlying82 hi hz0 .i64 .i64 2 2 (Nat.le_refl _) (by rw [hz2]; omega) (by omega) W
  rw [hz1] at h
  have e : madeCells (Value.string ⟨#[]⟩).cells (2 * 1) = #[.string ⟨#[]⟩, .string ⟨#[]⟩] := by
    rw [made_arr]
    apply Array.ext_getElem?
    intro i
    rw [arr_get?]
    match i with
    | 0 => rfl
    | 1 => rfl
    | i + 2 => simp
  rw [e] at h
  exact h
set_option maxRecDepth 100000 in
set_option maxHeartbeats 2000000 in
theorem listText_two (b : Nat) (x y : Int) (w : World) (hb : Blk w b 2 #[.int .i64 x, .int .i64 y]) (hx : -1000000000000 ≤ x ∧ x ≤ 1000000000000) (hy : -1000000000000 ≤ y ∧ y ≤ 1000000000000) (hT : Tab w) :
    Calls Tryd.prog 80 #[.slice (some ⟨b, 0, none⟩) 2 2] w fun e w' => e = .returned (.string (list2 x y)) ∧ Below w.heap.size w w' := by
  have HX := Lib.hid (show -9223372036854775808 ≤ x ∧ x ≤ 9223372036854775807 by omega)
  have HY := Lib.hid (show -9223372036854775808 ≤ y ∧ y ≤ 9223372036854775807 by omega)
  have HT := Lib.hid hT
  have IX := Lib.hid (inB_iff.2 hx)
  have IY := Lib.hid (inB_iff.2 hy)
  have hmk := make_two
  clear hx hy hT
  have c0 := hb.cell 0
  have c1 := hb.cell 1
  simp at c0 c1
  have cl := hb.lt
  go_enter Tryd.func80, Tryd.ntmps80
  go_wp2_with fail
  generalize hV : World.alloc _ _ = w1
  have h1 : Below w.heap.size w w1 := by rw [← hV]; exact (Below.refl _ _).alloc (Nat.le_refl _) _
  have k1 : Blk w1 w.heap.size 9 #[.string ⟨#[]⟩, .string ⟨#[]⟩] := by rw [← hV]; exact Blk.new w _ _
  clear hV hmk c0 c1 cl
  have g1 := hb.below h1 hb.lt
  have d0 := g1.cell 0
  have d1 := g1.cell 1
  simp at d0 d1
  have dl := g1.lt
  refine wp_loop_rounds 3 ?_
  rw [rounds_succ]
  go_wp2_with fail
  refine (within_eq _ _ _ _).mono ?_
  rintro e w1 ⟨rfl, rfl⟩
  rw [IX.out]
  go_wp2_with fail
  refine (decimal_any _ HX.out _ (HT.out.below h1)).mono ?_
  rintro e w2 ⟨rfl, hb2⟩
  have k2 := k1.below hb2 k1.lt
  have h2 := h1.trans (hb2.mono h1.size)
  have ug0 := k2.frozen 0
  have ug1 := k2.frozen 1
  have v0 := k2.cell 0
  have v1 := k2.cell 1
  simp at v0 v1
  have vl := k2.lt
  go_wp2_with fail
  generalize hV : World.setCell _ _ _ = w3
  have k3 : Blk w3 w.heap.size 9 #[.string (decB x), .string ⟨#[]⟩] := by rw [← hV]; exact k2.set_ 0 _
  have h3 : Below w.heap.size w w3 := by rw [← hV]; exact h2.setCell (Nat.le_refl _) _
  clear hV d0 d1 dl ug0 ug1 v0 v1 vl
  have g3 := hb.below h3 hb.lt
  have d0 := g3.cell 0
  have d1 := g3.cell 1
  simp at d0 d1
  have dl := g3.lt
  rw [rounds_succ]
  go_wp2_with fail
  refine (within_eq _ _ _ _).mono ?_
  rintro e w3 ⟨rfl, rfl⟩
  rw [IY.out]
  go_wp2_with fail
  refine (decimal_any _ HY.out _ (HT.out.below h3)).mono ?_
  rintro e w4 ⟨rfl, hb4⟩
  have k4 := k3.below hb4 k3.lt
  have h4 := h3.trans (hb4.mono h3.size)
  have ug0 := k4.frozen 0
  have ug1 := k4.frozen 1
  have v0 := k4.cell 0
  have v1 := k4.cell 1
  simp at v0 v1
  have vl := k4.lt
  go_wp2_with fail
  generalize hV : World.setCell _ _ _ = w5
  have k5 : Blk w5 w.heap.size 9 #[.string (decB x), .string (decB y)] := by rw [← hV]; exact k4.set_ 1 _
  have h5 : Below w.heap.size w w5 := by rw [← hV]; exact h4.setCell (Nat.le_refl _) _
  clear hV ug0 ug1 v0 v1 vl
  rw [rounds_succ]
  go_wp2_with fail
  have e1 := decB_size HX.out
  have e2 := decB_size HY.out
  have hj : Calls Tryd.prog 112 #[.slice (some ⟨w.heap.size, 0, none⟩) 2 2, .string ⟨#[44]⟩] w5 fun e w' => e = .returned (.string (list2 x y)) ∧ Below w5.heap.size w5 w' := by
    refine (Tryd.strings_Join w.heap.size 0 2 [decB x, decB y] ⟨#[44]⟩ w5 ?_ k5.lt (by simp) (by simp) (by rw [join2_len]; omega)).mono ?_
    · intro j z hz
      match j with
      | 0 => cases hz; exact k5.cell 0
      | 1 => cases hz; exact k5.cell 1
      | j + 2 => simp at hz
    · rintro e w6 ⟨rfl, hb6⟩
      exact ⟨by rw [join2]; rfl, hb6⟩
  refine hj.mono ?_
  rintro e w6 ⟨rfl, hb6⟩
  go_wp2_with fail
  go_ret
  exact ⟨rfl, h5.trans (hb6.mono h5.size)⟩
set_option maxRecDepth 100000 in
set_option maxHeartbeats 2000000 in
theorem specDomeText_any (x0 : ByteArray) (x1 x2 : Int) (w : World) (g0 : x0.size ≤ 9223372036854775807) (_g1 : -9223372036854775808 ≤ x1 ∧ x1 ≤ 9223372036854775807) (_g2 : -9223372036854775808 ≤ x2 ∧ x2 ≤ 9223372036854775807) :
    Calls Tryd.prog 38 #[.agg #[.string x0, .int .i64 x1, .int .i64 x2]] w fun e w' => e = .returned (.string (mDT ⟨x0, x1, x2⟩)) ∧ Below w.heap.size w w' := by
  have GK := Lib.hid g0
  clear g0 _g1 _g2
  go_enter Tryd.func38, Tryd.ntmps38
  go_wp2_with fail
  generalize hV : World.alloc _ _ = w1
  have h1 : Below w.heap.size w w1 := by rw [← hV]; exact (Below.refl _ _).alloc (Nat.le_refl _) _
  have x1' : DomeAt w1 w.heap.size 0 ⟨x0, x1, x2⟩ := by
    have hk := Blk.new w 66 #[.string x0, .int .i64 x1, .int .i64 x2]
    rw [← hV]
    exact ⟨hk.lt, hk.cell 0, hk.cell 1, hk.cell 2⟩
  clear hV
  have XH := Lib.hid x1'
  clear x1'
  refine (l09Ok_any _ _ ⟨x0, x1, x2⟩ _ XH.out GK.out).mono ?_
  rintro e w2 ⟨rfl, rfl⟩
  rcases b_cases (domeB ⟨x0, x1, x2⟩) with q | q
  · have E := Lib.hid (show mDT ⟨x0, x1, x2⟩ = ⟨#[]⟩ by unfold mDT; rw [q]; rfl)
    rw [q]
    go_wp2_with fail
    go_ret
    exact ⟨by rw [E.out] <;> rfl, h1⟩
  · have E := Lib.hid (show mDT ⟨x0, x1, x2⟩ = domeTx ⟨x0, x1, x2⟩ by unfold mDT; rw [q]; rfl)
    have Q := Lib.hid q
    rw [q]
    clear q
    go_wp2_with fail
    refine (l09Text_any _ _ ⟨x0, x1, x2⟩ _ XH.out Q.out).mono ?_
    rintro e w3 ⟨rfl, hb3⟩
    go_wp2_with fail
    go_ret
    exact ⟨by rw [E.out] <;> rfl, h1.trans (hb3.mono h1.size)⟩
set_option maxRecDepth 100000 in
set_option maxHeartbeats 2000000 in
theorem implDomeText_any (x0 : ByteArray) (x1 x2 : Int) (w : World) (g0 : x0.size ≤ 9223372036854775807) (_g1 : -9223372036854775808 ≤ x1 ∧ x1 ≤ 9223372036854775807) (_g2 : -9223372036854775808 ≤ x2 ∧ x2 ≤ 9223372036854775807) (hT : Tab w) :
    Calls Tryd.prog 40 #[.agg #[.string x0, .int .i64 x1, .int .i64 x2]] w fun e w' => e = .returned (.string (mDT ⟨x0, x1, x2⟩)) ∧ Below w.heap.size w w' := by
  have GK := Lib.hid g0
  have HT := Lib.hid hT
  clear g0 _g1 _g2 hT
  go_enter Tryd.func40, Tryd.ntmps40
  go_wp2_with fail
  generalize hV : World.alloc _ _ = w1
  have h1 : Below w.heap.size w w1 := by rw [← hV]; exact (Below.refl _ _).alloc (Nat.le_refl _) _
  have k1 : Blk w1 w.heap.size 66 #[.string x0, .int .i64 x1, .int .i64 x2] := by rw [← hV]; exact Blk.new w _ _
  clear hV
  have c0 := k1.cell 0
  have c1 := k1.cell 1
  have c2 := k1.cell 2
  simp at c0 c1 c2
  have cl := k1.lt
  refine (validDome_any ⟨x0, x1, x2⟩ _ GK.out).mono ?_
  rintro e w2 ⟨rfl, hb2⟩
  have HB2 := h1.trans (hb2.mono h1.size)
  have k2 := k1.below hb2 k1.lt
  clear c0 c1 c2 cl
  rcases b_cases (domeB ⟨x0, x1, x2⟩) with q | q
  · have E := Lib.hid (show mDT ⟨x0, x1, x2⟩ = ⟨#[]⟩ by unfold mDT; rw [q]; rfl)
    rw [q]
    go_wp2_with fail
    go_ret
    exact ⟨by rw [E.out] <;> rfl, HB2⟩
  · have E := Lib.hid (show mDT ⟨x0, x1, x2⟩ = domeTx ⟨x0, x1, x2⟩ by unfold mDT; rw [q]; rfl)
    have ns : x0.size ≤ 32 := name_size (domeB_iff.1 q).1
    have PD := dome_nums q
    simp only at PD
    obtain ⟨⟨a1, a2⟩, a3, a4⟩ := PD
    have s1 := list2_size (a := x1) (b := x2) (by omega) (by omega)
    have R1 := Lib.hid (show -1000000000000 ≤ x1 ∧ x1 ≤ 1000000000000 by omega)
    have R2 := Lib.hid (show -1000000000000 ≤ x2 ∧ x2 ≤ 1000000000000 by omega)
    have HT2 := Lib.hid (HT.out.below HB2)
    rw [q]
    clear q
    have d0 := k2.cell 0
    have d1 := k2.cell 1
    have d2 := k2.cell 2
    simp at d0 d1 d2
    have dl := k2.lt
    have ks : ∀ w' : World, Below w2.heap.size w2 w' → w'.cell? ⟨w.heap.size, 0, none⟩ = some (.string x0) ∧ w'.cell? ⟨w.heap.size, 1, none⟩ = some (.int .i64 x1) ∧ w'.cell? ⟨w.heap.size, 2, none⟩ = some (.int .i64 x2) := fun w' h => ⟨(h.cell dl).trans d0, (h.cell dl).trans d1, (h.cell dl).trans d2⟩
    have KS := Lib.hid ks
    clear ks
    have q1 : ¬ (9223372036854775807 < x0.size + 1) := by omega
    have q2 : ¬ (9223372036854775806 < x0.size) := by omega
    have q3 : ¬ (9223372036854775807 < x0.size + 1 + (list2 x1 x2).size) := by omega
    go_wp2_with fail
    go_region_held3 (fun w' => w'.cell? ⟨w.heap.size, 0, none⟩ = some (.string x0) ∧ w'.cell? ⟨w.heap.size, 1, none⟩ = some (.int .i64 x1) ∧ w'.cell? ⟨w.heap.size, 2, none⟩ = some (.int .i64 x2))
      (exact KS.out _ (by repeat (first | with_reducible exact Below.refl _ _ | with_reducible assumption | with_reducible refine Below.setCell ?_ (by first | omega | (simp <;> omega)) _ | with_reducible refine Below.alloc ?_ (by first | omega | (simp <;> omega)) _ | with_reducible refine Below.drew ?_)))
      (first
        | (go_at_call 80; refine (listText_two _ _ _ _ (Blk.drew (Blk.new w2 _ _)) R1.out R2.out (HT2.out.below (w' := (w2.alloc _).drew) (by repeat (first | with_reducible exact Below.refl _ _ | with_reducible assumption | with_reducible refine Below.setCell ?_ (by first | omega | (simp <;> omega)) _ | with_reducible refine Below.alloc ?_ (by first | omega | (simp <;> omega)) _ | with_reducible refine Below.drew ?_)))).mono ?_; rintro e vX ⟨rfl, FX⟩; have TX : Below w2.heap.size w2 vX := below_then (by repeat (first | with_reducible exact Below.refl _ _ | with_reducible assumption | with_reducible refine Below.setCell ?_ (by first | omega | (simp <;> omega)) _ | with_reducible refine Below.alloc ?_ (by first | omega | (simp <;> omega)) _ | with_reducible refine Below.drew ?_)) FX; have sX := TX.size))
    all_goals (try go_wp2_with fail)
    all_goals go_ret
    all_goals exact ⟨by rw [E.out] <;> rfl, HB2.trans ((by repeat (first | with_reducible exact Below.refl _ _ | with_reducible assumption | with_reducible refine Below.setCell ?_ (by first | omega | (simp <;> omega)) _ | with_reducible refine Below.alloc ?_ (by first | omega | (simp <;> omega)) _ | with_reducible refine Below.drew ?_) : Below w2.heap.size w2 _).mono HB2.size)⟩
end Go.Proofs.YtikonccofaiceaaDoor
