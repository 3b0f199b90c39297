/- DomeText. Conditions: the sizes of strings; the library's table of powers of ten lies. -/
import Derived.Test.YthjllledhcfnhaaGreatDoorText
import Derived.Test.YthjllledhcfnhaaGreatDoorName
import Derived.LoopN
import Derived.Deep.RegionHeld3
import Derived.Shelf.Strings.OnBuilder
import Derived.Test.YthjllledhcfnhaaGreatDoorProg
namespace Go.Proofs
open Go.Shelf
def Tryz.lays156_ren : Go.Shelf.Ren := ⟨fun | 156 => 43 | 165 => 81 | 166 => 82 | 169 => 83 | 240 => 111 | 241 => 112 | 276 => 143 | 277 => 144 | n => n, fun | 31 => 69 | 9 => 9 | 3 => 3 | 4 => 4 | 0 => 0 | 20 => 20 | 72 => 114 | 76 => 118 | 70 => 112 | 37 => 22 | 75 => 117 | 127 => 145 | 164 => 164 | 5 => 5 | 80 => 120 | n => n, fun | n => n⟩
theorem Tryz.lays156 : Go.Proofs.Lays.n156 Tryz.prog Tryz.lays156_ren := {
  mixed := by kernel_rfl
  f156 := Tryz.func43.trans (congrArg some (by kernel_rfl))
  f165 := Tryz.func81.trans (congrArg some (by kernel_rfl))
  f166 := Tryz.func82.trans (congrArg some (by kernel_rfl))
  f169 := Tryz.func83.trans (congrArg some (by kernel_rfl))
  f240 := Tryz.func111.trans (congrArg some (by kernel_rfl))
  f241 := Tryz.func112.trans (congrArg some (by kernel_rfl))
  f276 := Tryz.func143.trans (congrArg some (by kernel_rfl))
  f277 := Tryz.func144.trans (congrArg some (by kernel_rfl))
  t0 := Tryz.underlying0
  a0 := Tryz.isAgg0
  z0 := Tryz.sizeOf0
  v0 := Tryz.zeroValue0
  t3 := Tryz.underlying3
  a3 := Tryz.isAgg3
  z3 := Tryz.sizeOf3
  v3 := Tryz.zeroValue3
  t4 := Tryz.underlying4
  a4 := Tryz.isAgg4
  z4 := Tryz.sizeOf4
  v4 := Tryz.zeroValue4
  t9 := Tryz.underlying9
  a9 := Tryz.isAgg9
  z9 := Tryz.sizeOf9
  v9 := Tryz.zeroValue9
  t20 := Tryz.underlying20
  a20 := Tryz.isAgg20
  z20 := Tryz.sizeOf20
  v20 := Tryz.zeroValue20
  t31 := Tryz.underlying69
  a31 := Tryz.isAgg69
  z31 := Tryz.sizeOf69
  v31 := Tryz.zeroValue69
  t37 := Tryz.underlying22
  a37 := Tryz.isAgg22
  z37 := Tryz.sizeOf22
  v37 := Tryz.zeroValue22
  t70 := Tryz.underlying112
  a70 := Tryz.isAgg112
  z70 := Tryz.sizeOf112
  v70 := Tryz.zeroValue112
  t72 := Tryz.underlying114
  a72 := Tryz.isAgg114
  z72 := Tryz.sizeOf114
  v72 := Tryz.zeroValue114
  t75 := Tryz.underlying117
  a75 := Tryz.isAgg117
  z75 := Tryz.sizeOf117
  v75 := Tryz.zeroValue117
  t76 := Tryz.underlying118
  a76 := Tryz.isAgg118
  z76 := Tryz.sizeOf118
  v76 := Tryz.zeroValue118
  t127 := Tryz.underlying145
  a127 := Tryz.isAgg145
  z127 := Tryz.sizeOf145
  v127 := Tryz.zeroValue145
  t164 := Tryz.underlying164
  a164 := Tryz.isAgg164
  z164 := Tryz.sizeOf164
  v164 := Tryz.zeroValue164 }
theorem Tryz.Builder_Extra_156 : Builder.Extra Tryz.prog Tryz.lays156_ren := {
  sizeBuilder := by kernel_rfl
  liesBuilder := by kernel_rfl
  t5 := Tryz.underlying5
  a5 := Tryz.isAgg5
  z5 := Tryz.sizeOf5
  v5 := Tryz.zeroValue5
  infoByte := by kernel_rfl
  cellsByte := by kernel_rfl
  sizeByte := by kernel_rfl
  neB5 := by decide }
open Go.RowKit in
/-- No element: the empty string; the world is as it was. (Whatever the slice's address and capacity: a nil slice too.) (LAID: no walk: one application.) -/
theorem Tryz.strings_Join_none (a : Option Addr) (c : Nat) (sep : ByteArray) (w : World) :
    Calls Tryz.prog 43 #[.slice a 0 c, .string sep] w fun e w' => e = .returned (.string ⟨#[]⟩) ∧ w' = w := Any.strings_Join_none Tryz.lays156 Tryz.Builder_Extra_156 a c sep w
open Go.RowKit in
/-- strings.Join: "Join concatenates the elements of its first argument to create a single string. The separator string sep is placed between elements in the resulting string.": HOWEVER MANY ELEMENTS. Below the heap's end the world is as it was. (LAID: no walk: one application.) -/
theorem Tryz.strings_Join (bk o c : Nat) (xs : List ByteArray) (sep : ByteArray) (w : World) (hcells : ∀ (j : Nat) x, xs[j]? = some x → w.cell? ⟨bk, o + j, none⟩ = some (.string x)) (hbk : bk < w.heap.size) (hN : xs.length ≤ 140737488355328) (hcap : xs.length ≤ c) (hlen : (Lib.join (xs.map (·.data.toList)) sep.data.toList).length ≤ 140737488355328) :
    Calls Tryz.prog 43 #[.slice (some ⟨bk, o, none⟩) xs.length c, .string sep] w fun e w' => e = .returned (.string ⟨(Lib.join (xs.map (·.data.toList)) sep.data.toList).toArray⟩) ∧ Below w.heap.size w w' := Any.strings_Join Tryz.lays156 Tryz.Builder_Extra_156 bk o c xs sep w hcells hbk hN hcap hlen
end Go.Proofs
namespace Go.Ks.Tx
/-- the text of two numbers -/
def list2 (a b : Int) : ByteArray := decB a ++ (⟨#[44]⟩ : ByteArray) ++ decB b
/-- the text of a dome -/
def domeTx (x : DomeD) : ByteArray := x.f0 ++ (⟨#[32]⟩ : ByteArray) ++ list2 x.f1 x.f2
theorem list2_size {a b : Int} (ha : -9223372036854775808 ≤ a ∧ a ≤ 9223372036854775807) (hb : -9223372036854775808 ≤ b ∧ b ≤ 9223372036854775807) : (list2 a b).size ≤ 43 := by
  have h1 := decB_size ha
  have h2 := decB_size hb
  unfold list2
  rw [ByteArray.size_append, ByteArray.size_append]
  have : (⟨#[44]⟩ : ByteArray).size = 1 := rfl
  omega
theorem join2 (a b : ByteArray) (s : UInt8) : (⟨(Lib.join ([a, b].map (·.data.toList)) (⟨#[s]⟩ : ByteArray).data.toList).toArray⟩ : ByteArray) = a ++ (⟨#[s]⟩ : ByteArray) ++ b := by
  apply ByteArray.ext
  rw [ByteArray.data_append, ByteArray.data_append]
  simp [Lib.join, List.intercalate]
theorem join2_len (a b : ByteArray) (s : UInt8) : (Lib.join ([a, b].map (·.data.toList)) (⟨#[s]⟩ : ByteArray).data.toList).length = a.size + 1 + b.size := by
  simp [Lib.join, List.intercalate]
  omega
end Go.Ks.Tx
namespace Go.Proofs.YthjllledhcfnhaaGreatDoor.Tx
open Go.RowKit Go.Lib Go.Ks Go.Ks.Tx
theorem name_size {s : ByteArray} (h : NameOk s) : s.size ≤ 32 := by
  have := h.2.1
  omega
theorem b_cases (b : Bool) : b = false ∨ b = true := by cases b <;> simp
/-- a valid dome -/
def DomeOk1 (x : DomeD) : Prop := NameOk x.f0 ∧ inB x.f1 1000 30000 = true ∧ inB x.f2 0 45000 = true
open Classical in
noncomputable def domeB (x : DomeD) : Bool := decide (DomeOk1 x)
theorem domeB_no {x : DomeD} (h : ¬ DomeOk1 x) : domeB x = false := by simp [domeB, h]
theorem domeB_yes {x : DomeD} (h : DomeOk1 x) : domeB x = true := by simp [domeB, h]
theorem domeB_iff {x : DomeD} : domeB x = true ↔ DomeOk1 x := by simp [domeB]
theorem dome_nums {x : DomeD} (h : domeB x = true) : (1000 ≤ x.f1 ∧ x.f1 ≤ 30000) ∧ 0 ≤ x.f2 ∧ x.f2 ≤ 45000 := ⟨inB_iff.1 (domeB_iff.1 h).2.1, inB_iff.1 (domeB_iff.1 h).2.2⟩
theorem dome_split (x : DomeD) : (nameB x.f0 = false ∧ domeB x = false) ∨ (nameB x.f0 = true ∧ inB x.f1 1000 30000 = false ∧ domeB x = false) ∨ (nameB x.f0 = true ∧ inB x.f1 1000 30000 = true ∧ domeB x = inB x.f2 0 45000) := by
  cases h0 : nameB x.f0
  · exact .inl ⟨rfl, domeB_no (fun h => by rw [nameB_yes h.1] at h0; cases h0)⟩
  refine .inr ?_
  cases h1 : inB x.f1 1000 30000
  · exact .inl ⟨rfl, rfl, domeB_no (fun h => by rw [h.2.1] at h1; cases h1)⟩
  refine .inr ⟨rfl, rfl, ?_⟩
  cases h2 : inB x.f2 0 45000
  · exact domeB_no (fun h => by rw [h.2.2] at h2; cases h2)
  · exact domeB_yes ⟨nameB_iff.1 h0, h1, h2⟩
noncomputable def mDT (x : DomeD) : ByteArray := if domeB x = true then domeTx x else ⟨#[]⟩
set_option maxHeartbeats 1000000 in
theorem validDome_any (x : DomeD) (w : World) (hok : x.f0.size ≤ 9223372036854775807) :
    Calls Tryz.prog 64 #[.agg #[.string x.f0, .int .i64 x.f1, .int .i64 x.f2]] w fun e w' => e = .returned (.bool (domeB x)) ∧ Below w.heap.size w w' := by
  rcases dome_split x with ⟨a0, E⟩ | ⟨a0, a1, E⟩ | ⟨a0, a1, E⟩
  all_goals
    have EE := Lib.hid E
    clear E
    go_enter Tryz.func64, Tryz.ntmps64
    go_wp2_with (first | (go_at_call 96; refine (isName_eq _ (by assumption) _).mono ?_; rintro e w' ⟨rfl, rfl⟩) | (go_at_call 60; refine (within_eq _ _ _ _).mono ?_; rintro e w' ⟨rfl, rfl⟩))
    go_ret
    refine ⟨ret_bool EE.out.symm, ?_⟩
    repeat (first | with_reducible exact Below.refl _ _ | with_reducible assumption | with_reducible refine Below.setCell ?_ (by simp <;> omega) _ | with_reducible refine Below.alloc ?_ (by simp <;> omega) _ | with_reducible refine Below.drew ?_)
theorem Tryz.infoStr : (Tryz.prog.info? 9).map (fun i => (i.zero, i.size, i.bytes)) = some (some (.string ⟨#[]⟩), 1, 16) := by kernel_rfl
theorem make_two (W : World) : (Instr.makeSlice 69 (.int .i64 2) (.int .i64 2)).run Tryz.prog W = .ok (.slice (some ⟨W.heap.size, 0, none⟩) 2 2) (W.alloc (.cells #[.string ⟨#[]⟩, .string ⟨#[]⟩] 9)) := by
  obtain ⟨i0, hi, hz0, hz1, hz2⟩ := info_parts Tryz.infoStr
  have h := run_make_rowN (P := Tryz.prog) 69 9 i0 _ Tryz.underlying69 hi hz0 .i64 .i64 2 2 (Nat.le_refl _) (by rw [hz2]; omega) (by omega) W
  rw [hz1] at h
  have e : madeCells (Value.string ⟨#[]⟩).cells (2 * 1) = #[.string ⟨#[]⟩, .string ⟨#[]⟩] := by
    rw [made_arr]
    apply Array.ext_getElem?
    intro i
    rw [arr_get?]
    match i with
    | 0 => rfl
    | 1 => rfl
    | i + 2 => simp
  rw [e] at h
  exact h
set_option maxRecDepth 100000 in
set_option maxHeartbeats 2000000 in
theorem listText_two (b : Nat) (x y : Int) (w : World) (hb : Blk w b 2 #[.int .i64 x, .int .i64 y]) (hx : -1000000000000 ≤ x ∧ x ≤ 1000000000000) (hy : -1000000000000 ≤ y ∧ y ≤ 1000000000000) (hT : Tab w) :
    Calls Tryz.prog 70 #[.slice (some ⟨b, 0, none⟩) 2 2] w fun e w' => e = .returned (.string (list2 x y)) ∧ Below w.heap.size w w' := by
  have HX := Lib.hid (show -9223372036854775808 ≤ x ∧ x ≤ 9223372036854775807 by omega)
  have HY := Lib.hid (show -9223372036854775808 ≤ y ∧ y ≤ 9223372036854775807 by omega)
  have HT := Lib.hid hT
  have IX := Lib.hid (inB_iff.2 hx)
  have IY := Lib.hid (inB_iff.2 hy)
  have hmk := make_two
  clear hx hy hT
  have c0 := hb.cell 0
  have c1 := hb.cell 1
  simp at c0 c1
  have cl := hb.lt
  go_enter Tryz.func70, Tryz.ntmps70
  go_wp2_with fail
  generalize hV : World.alloc _ _ = w1
  have h1 : Below w.heap.size w w1 := by rw [← hV]; exact (Below.refl _ _).alloc (Nat.le_refl _) _
  have k1 : Blk w1 w.heap.size 9 #[.string ⟨#[]⟩, .string ⟨#[]⟩] := by rw [← hV]; exact Blk.new w _ _
  clear hV hmk c0 c1 cl
  have g1 := hb.below h1 hb.lt
  have d0 := g1.cell 0
  have d1 := g1.cell 1
  simp at d0 d1
  have dl := g1.lt
  refine wp_loop_rounds 3 ?_
  rw [rounds_succ]
  go_wp2_with fail
  refine (within_eq _ _ _ _).mono ?_
  rintro e w1 ⟨rfl, rfl⟩
  rw [IX.out]
  go_wp2_with fail
  refine (decimal_any _ HX.out _ (HT.out.below h1)).mono ?_
  rintro e w2 ⟨rfl, hb2⟩
  have k2 := k1.below hb2 k1.lt
  have h2 := h1.trans (hb2.mono h1.size)
  have ug0 := k2.frozen 0
  have ug1 := k2.frozen 1
  have v0 := k2.cell 0
  have v1 := k2.cell 1
  simp at v0 v1
  have vl := k2.lt
  go_wp2_with fail
  generalize hV : World.setCell _ _ _ = w3
  have k3 : Blk w3 w.heap.size 9 #[.string (decB x), .string ⟨#[]⟩] := by rw [← hV]; exact k2.set_ 0 _
  have h3 : Below w.heap.size w w3 := by rw [← hV]; exact h2.setCell (Nat.le_refl _) _
  clear hV d0 d1 dl ug0 ug1 v0 v1 vl
  have g3 := hb.below h3 hb.lt
  have d0 := g3.cell 0
  have d1 := g3.cell 1
  simp at d0 d1
  have dl := g3.lt
  rw [rounds_succ]
  go_wp2_with fail
  refine (within_eq _ _ _ _).mono ?_
  rintro e w3 ⟨rfl, rfl⟩
  rw [IY.out]
  go_wp2_with fail
  refine (decimal_any _ HY.out _ (HT.out.below h3)).mono ?_
  rintro e w4 ⟨rfl, hb4⟩
  have k4 := k3.below hb4 k3.lt
  have h4 := h3.trans (hb4.mono h3.size)
  have ug0 := k4.frozen 0
  have ug1 := k4.frozen 1
  have v0 := k4.cell 0
  have v1 := k4.cell 1
  simp at v0 v1
  have vl := k4.lt
  go_wp2_with fail
  generalize hV : World.setCell _ _ _ = w5
  have k5 : Blk w5 w.heap.size 9 #[.string (decB x), .string (decB y)] := by rw [← hV]; exact k4.set_ 1 _
  have h5 : Below w.heap.size w w5 := by rw [← hV]; exact h4.setCell (Nat.le_refl _) _
  clear hV ug0 ug1 v0 v1 vl
  rw [rounds_succ]
  go_wp2_with fail
  have e1 := decB_size HX.out
  have e2 := decB_size HY.out
  have hj : Calls Tryz.prog 43 #[.slice (some ⟨w.heap.size, 0, none⟩) 2 2, .string ⟨#[44]⟩] w5 fun e w' => e = .returned (.string (list2 x y)) ∧ Below w5.heap.size w5 w' := by
    refine (Tryz.strings_Join w.heap.size 0 2 [decB x, decB y] ⟨#[44]⟩ w5 ?_ k5.lt (by simp) (by simp) (by rw [join2_len]; omega)).mono ?_
    · intro j z hz
      match j with
      | 0 => cases hz; exact k5.cell 0
      | 1 => cases hz; exact k5.cell 1
      | j + 2 => simp at hz
    · rintro e w6 ⟨rfl, hb6⟩
      exact ⟨by rw [join2]; rfl, hb6⟩
  refine hj.mono ?_
  rintro e w6 ⟨rfl, hb6⟩
  go_wp2_with fail
  go_ret
  exact ⟨rfl, h5.trans (hb6.mono h5.size)⟩
set_option maxRecDepth 100000 in
set_option maxHeartbeats 2000000 in
theorem implDomeText_any (x0 : ByteArray) (x1 x2 : Int) (w : World) (g0 : x0.size ≤ 9223372036854775807) (_g1 : -9223372036854775808 ≤ x1 ∧ x1 ≤ 9223372036854775807) (_g2 : -9223372036854775808 ≤ x2 ∧ x2 ≤ 9223372036854775807) (hT : Tab w) :
    Calls Tryz.prog 31 #[.agg #[.string x0, .int .i64 x1, .int .i64 x2]] w fun e w' => e = .returned (.string (mDT ⟨x0, x1, x2⟩)) ∧ Below w.heap.size w w' := by
  have GK := Lib.hid g0
  have HT := Lib.hid hT
  clear g0 _g1 _g2 hT
  go_enter Tryz.func31, Tryz.ntmps31
  go_wp2_with fail
  generalize hV : World.alloc _ _ = w1
  have h1 : Below w.heap.size w w1 := by rw [← hV]; exact (Below.refl _ _).alloc (Nat.le_refl _) _
  have k1 : Blk w1 w.heap.size 46 #[.string x0, .int .i64 x1, .int .i64 x2] := by rw [← hV]; exact Blk.new w _ _
  clear hV
  have c0 := k1.cell 0
  have c1 := k1.cell 1
  have c2 := k1.cell 2
  simp at c0 c1 c2
  have cl := k1.lt
  refine (validDome_any ⟨x0, x1, x2⟩ _ GK.out).mono ?_
  rintro e w2 ⟨rfl, hb2⟩
  have HB2 := h1.trans (hb2.mono h1.size)
  have k2 := k1.below hb2 k1.lt
  clear c0 c1 c2 cl
  rcases b_cases (domeB ⟨x0, x1, x2⟩) with q | q
  · have E := Lib.hid (show mDT ⟨x0, x1, x2⟩ = ⟨#[]⟩ by unfold mDT; rw [q]; rfl)
    rw [q]
    go_wp2_with fail
    go_ret
    exact ⟨by rw [E.out] <;> rfl, HB2⟩
  · have E := Lib.hid (show mDT ⟨x0, x1, x2⟩ = domeTx ⟨x0, x1, x2⟩ by unfold mDT; rw [q]; rfl)
    have ns : x0.size ≤ 32 := name_size (domeB_iff.1 q).1
    have PD := dome_nums q
    simp only at PD
    obtain ⟨⟨a1, a2⟩, a3, a4⟩ := PD
    have s1 := list2_size (a := x1) (b := x2) (by omega) (by omega)
    have R1 := Lib.hid (show -1000000000000 ≤ x1 ∧ x1 ≤ 1000000000000 by omega)
    have R2 := Lib.hid (show -1000000000000 ≤ x2 ∧ x2 ≤ 1000000000000 by omega)
    have HT2 := Lib.hid (HT.out.below HB2)
    rw [q]
    clear q
    have d0 := k2.cell 0
    have d1 := k2.cell 1
    have d2 := k2.cell 2
    simp at d0 d1 d2
    have dl := k2.lt
    have ks : ∀ w' : World, Below w2.heap.size w2 w' → w'.cell? ⟨w.heap.size, 0, none⟩ = some (.string x0) ∧ w'.cell? ⟨w.heap.size, 1, none⟩ = some (.int .i64 x1) ∧ w'.cell? ⟨w.heap.size, 2, none⟩ = some (.int .i64 x2) := fun w' h => ⟨(h.cell dl).trans d0, (h.cell dl).trans d1, (h.cell dl).trans d2⟩
    have KS := Lib.hid ks
    clear ks
    have q1 : ¬ (9223372036854775807 < x0.size + 1) := by omega
    have q2 : ¬ (9223372036854775806 < x0.size) := by omega
    have q3 : ¬ (9223372036854775807 < x0.size + 1 + (list2 x1 x2).size) := by omega
    go_wp2_with fail
    go_region_held3 (fun w' => w'.cell? ⟨w.heap.size, 0, none⟩ = some (.string x0) ∧ w'.cell? ⟨w.heap.size, 1, none⟩ = some (.int .i64 x1) ∧ w'.cell? ⟨w.heap.size, 2, none⟩ = some (.int .i64 x2))
      (exact KS.out _ (by repeat (first | with_reducible exact Below.refl _ _ | with_reducible assumption | with_reducible refine Below.setCell ?_ (by first | omega | (simp <;> omega)) _ | with_reducible refine Below.alloc ?_ (by first | omega | (simp <;> omega)) _ | with_reducible refine Below.drew ?_)))
      (first
        | (go_at_call 70; refine (listText_two _ _ _ _ (Blk.drew (Blk.new w2 _ _)) R1.out R2.out (HT2.out.below (w' := (w2.alloc _).drew) (by repeat (first | with_reducible exact Below.refl _ _ | with_reducible assumption | with_reducible refine Below.setCell ?_ (by first | omega | (simp <;> omega)) _ | with_reducible refine Below.alloc ?_ (by first | omega | (simp <;> omega)) _ | with_reducible refine Below.drew ?_)))).mono ?_; rintro e vX ⟨rfl, FX⟩; have TX : Below w2.heap.size w2 vX := below_then (by repeat (first | with_reducible exact Below.refl _ _ | with_reducible assumption | with_reducible refine Below.setCell ?_ (by first | omega | (simp <;> omega)) _ | with_reducible refine Below.alloc ?_ (by first | omega | (simp <;> omega)) _ | with_reducible refine Below.drew ?_)) FX; have sX := TX.size))
    all_goals (try go_wp2_with fail)
    all_goals go_ret
    all_goals exact ⟨by rw [E.out] <;> rfl, HB2.trans ((by repeat (first | with_reducible exact Below.refl _ _ | with_reducible assumption | with_reducible refine Below.setCell ?_ (by first | omega | (simp <;> omega)) _ | with_reducible refine Below.alloc ?_ (by first | omega | (simp <;> omega)) _ | with_reducible refine Below.drew ?_) : Below w2.heap.size w2 _).mono HB2.size)⟩
end Go.Proofs.YthjllledhcfnhaaGreatDoor.Tx
