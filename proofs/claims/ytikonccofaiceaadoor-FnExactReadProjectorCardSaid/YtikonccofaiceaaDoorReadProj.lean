/- ReadProjector. Conditions: the size of a text; the library's variables lie. -/
import Derived.Test.YtikonccofaiceaaDoorReadAngleI
import Derived.Test.YtikonccofaiceaaDoorProjText
import Derived.Deep.RegionWith
import Derived.Deep.DeepCutAuto
namespace Go.Ks
open Go.RowKit Go.Lib
theorem proj_list (x : ProjectorD) : (projTx x).data.toList = x.f0.data.toList ++ 32 :: ((angB x.f1).data.toList ++ 32 :: ((angB x.f2).data.toList ++ 32 :: ((angB x.f3).data.toList ++ 32 :: Lib.itoa x.f4))) := by
  unfold projTx
  rw [text_list, text_list, text_list, text_list, text_list, text_list, text_list, text_list, dec_list]
  simp
theorem ang_32 {l : List UInt8} {a : Int} (h : AngIs l a) : (32 : UInt8) ∉ l ∧ l ≠ [] := by
  obtain ⟨sg, D, P, rfl, hD, hP, l1, _⟩ := ang_look h
  have h1 := dg_not (c := 32) (by decide) hD
  have h2 := dg_not (c := 32) (by decide) hP
  cases sg
  · simp [h1, h2]
  · simp [h1, h2]
theorem set5 {w w' : World} (h : Below w.heap.size w w') (u0 u1 u2 u3 u4 : Value) : Below w.heap.size w (((((w'.setCell ⟨w.heap.size, 0, none⟩ u0).setCell ⟨w.heap.size, 1, none⟩ u1).setCell ⟨w.heap.size, 2, none⟩ u2).setCell ⟨w.heap.size, 3, none⟩ u3).setCell ⟨w.heap.size, 4, none⟩ u4) :=
  ((((h.setCell (p := ⟨w.heap.size, 0, none⟩) (Nat.le_refl _) u0).setCell (p := ⟨w.heap.size, 1, none⟩) (Nat.le_refl _) u1).setCell (p := ⟨w.heap.size, 2, none⟩) (Nat.le_refl _) u2).setCell (p := ⟨w.heap.size, 3, none⟩) (Nat.le_refl _) u3).setCell (p := ⟨w.heap.size, 4, none⟩) (Nat.le_refl _) u4
theorem five_join {l a b c d e : List UInt8} (h : splitC 32 l = [a, b, c, d, e]) : l = a ++ 32 :: (b ++ 32 :: (c ++ 32 :: (d ++ 32 :: e))) := by
  have hj := join_splitC 32 l
  rw [h, Lib.join_cons] at hj
  rw [← hj]
  simp [Lib.joinTail]
theorem ProjectorD.same {x y : ProjectorD} (h0 : x.f0 = y.f0) (h1 : x.f1 = y.f1) (h2 : x.f2 = y.f2) (h3 : x.f3 = y.f3) (h4 : x.f4 = y.f4) : x = y := by
  cases x; cases y
  simp only at h0 h1 h2 h3 h4
  rw [h0, h1, h2, h3, h4]
end Go.Ks
namespace Go.Proofs.YtikonccofaiceaaDoor
open Go.RowKit Go.Lib Go.Ks
theorem name_32 {s : ByteArray} (h : NameOk s) : (32 : UInt8) ∉ s.data.toList := fun hm => by
  obtain ⟨i, hi⟩ := List.getElem?_of_mem hm
  have hb := Go.Ks.bt_list hi
  have hlt : i < s.size := by
    have := (List.getElem?_eq_some_iff.1 hi).1
    simpa using this
  have h2 := h.2.2.2 i hlt
  have e : bt s i = 32 := hb
  rw [e] at h2
  revert h2
  decide
/-- the projector with a text -/
def ProIs (s : ByteArray) (x : ProjectorD) : Prop := projB x = true ∧ projTx x = s
theorem pro_look {s : ByteArray} {x : ProjectorD} (h : ProIs s x) : splitC 32 s.data.toList = [x.f0.data.toList, (angB x.f1).data.toList, (angB x.f2).data.toList, (angB x.f3).data.toList, Lib.itoa x.f4] ∧ AngIs (angB x.f1).data.toList x.f1 ∧ AngIs (angB x.f2).data.toList x.f2 ∧ AngIs (angB x.f3).data.toList x.f3 ∧ IsNum (Lib.itoa x.f4) x.f4 ∧ x.f0.data.toList ≠ [] := by
  obtain ⟨ok, rfl⟩ := h
  obtain ⟨⟨a1, a2⟩, ⟨a3, a4⟩, ⟨a5, a6⟩, a7, a8⟩ := proj_dir ok
  have h1 : AngIs (angB x.f1).data.toList x.f1 := ⟨by omega, rfl⟩
  have h2 : AngIs (angB x.f2).data.toList x.f2 := ⟨by omega, rfl⟩
  have h3 : AngIs (angB x.f3).data.toList x.f3 := ⟨by omega, rfl⟩
  refine ⟨?_, h1, h2, h3, ⟨by omega, rfl⟩, fun e => ?_⟩
  · rw [proj_list, splitC_app (name_32 (projB_iff.1 ok).1), splitC_app (ang_32 h1).1, splitC_app (ang_32 h2).1, splitC_app (ang_32 h3).1, splitC_none (itoa_32 _)]
  · have := (projB_iff.1 ok).1.1
    have hz : x.f0.size = x.f0.data.toList.length := rfl
    rw [e] at hz
    have hz0 : x.f0.size = 0 := hz
    omega
/-- what the words of a projector's text say -/
theorem pro_words {s : ByteArray} {x : ProjectorD} {p0 p1 p2 p3 p4 : List UInt8} (h : ProIs s x) (hw : splitC 32 s.data.toList = [p0, p1, p2, p3, p4]) : angOk p1 = true ∧ angOk p2 = true ∧ angOk p3 = true ∧ numOk p4 = true ∧ x = ⟨⟨p0.toArray⟩, angV p1, angV p2, angV p3, numV p4⟩ := by
  obtain ⟨e, h1, h2, h3, h4, _⟩ := pro_look h
  rw [hw] at e
  injection e with e0 e
  injection e with e1 e
  injection e with e2 e
  injection e with e3 e
  injection e with e4 _
  rw [← e1] at h1
  rw [← e2] at h2
  rw [← e3] at h3
  rw [← e4] at h4
  refine ⟨(ang_yes h1).1, (ang_yes h2).1, (ang_yes h3).1, (num_yes h4).1, ProjectorD.same ?_ (ang_yes h1).2.symm (ang_yes h2).2.symm (ang_yes h3).2.symm (num_yes h4).2.symm⟩
  rw [e0]
theorem pro_uniq {s : ByteArray} {x y : ProjectorD} (h : ProIs s x) (h' : ProIs s y) : x = y := by
  obtain ⟨_, _, _, _, e⟩ := pro_words h (pro_look h).1
  obtain ⟨_, _, _, _, e'⟩ := pro_words h' (pro_look h).1
  exact e.trans e'.symm
theorem pro_make {s : ByteArray} {p0 p1 p2 p3 p4 : List UInt8} (hw : splitC 32 s.data.toList = [p0, p1, p2, p3, p4]) (h1 : angOk p1 = true) (h2 : angOk p2 = true) (h3 : angOk p3 = true) (h4 : numOk p4 = true) : projTx ⟨⟨p0.toArray⟩, angV p1, angV p2, angV p3, numV p4⟩ = s := by
  refine text_eq ?_
  rw [proj_list, (ang_of h1).2, (ang_of h2).2, (ang_of h3).2, (num_of h4).2, five_join hw]
open Classical in
noncomputable def rpB (s : ByteArray) : Bool := if ∃ x, ProIs s x then true else false
open Classical in
noncomputable def rpX (s : ByteArray) : ProjectorD := if h : ∃ x, ProIs s x then h.choose else ⟨ByteArray.empty, 0, 0, 0, 0⟩
noncomputable def mRP0 (s : ByteArray) : ByteArray := (rpX s).f0
noncomputable def mRP1 (s : ByteArray) : Int := (rpX s).f1
noncomputable def mRP2 (s : ByteArray) : Int := (rpX s).f2
noncomputable def mRP3 (s : ByteArray) : Int := (rpX s).f3
noncomputable def mRP4 (s : ByteArray) : Int := (rpX s).f4
/-- what a reader of projectors hands back -/
def RetRP (s : ByteArray) (e : Ending) : Prop := e = .returned (.tuple #[.agg #[.string (mRP0 s), .int .i64 (mRP1 s), .int .i64 (mRP2 s), .int .i64 (mRP3 s), .int .i64 (mRP4 s)], .bool (rpB s)])
theorem retRP_no {s : ByteArray} (h : ∀ x, ¬ ProIs s x) : RetRP s (.returned (.tuple #[.agg #[.string ByteArray.empty, .int .i64 0, .int .i64 0, .int .i64 0, .int .i64 0], .bool false])) := by
  have hx : ¬ ∃ x, ProIs s x := fun ⟨x, hx⟩ => h x hx
  have e1 : rpB s = false := if_neg hx
  have e2 : rpX s = ⟨ByteArray.empty, 0, 0, 0, 0⟩ := dif_neg hx
  unfold RetRP mRP0 mRP1 mRP2 mRP3 mRP4
  rw [e1, e2]
theorem retRP_yes {s : ByteArray} {x : ProjectorD} (h : ProIs s x) : RetRP s (.returned (.tuple #[.agg #[.string x.f0, .int .i64 x.f1, .int .i64 x.f2, .int .i64 x.f3, .int .i64 x.f4], .bool true])) := by
  have hx : ∃ x, ProIs s x := ⟨x, h⟩
  have e1 : rpB s = true := if_pos hx
  have e2 : rpX s = x := by
    unfold rpX
    rw [dif_pos hx]
    exact pro_uniq hx.choose_spec h
  unfold RetRP mRP0 mRP1 mRP2 mRP3 mRP4
  rw [e1, e2]
theorem ang_64 {p : List UInt8} (h : angOk p = true) : -9223372036854775808 ≤ angV p ∧ angV p ≤ 9223372036854775807 := by
  have := (ang_of h).1
  omega
theorem num_64 {p : List UInt8} (h : numOk p = true) : -9223372036854775808 ≤ numV p ∧ numV p ≤ 9223372036854775807 := by
  have := (num_of h).1
  omega
set_option maxRecDepth 100000 in
set_option maxHeartbeats 8000000 in
theorem l10Read_any (s : ByteArray) (w : World) (hs : s.size ≤ 1048576) :
    Calls Tryd.prog 83 #[.string s] w fun e w' => RetRP s e ∧ Below w.heap.size w w' := by
  obtain ⟨p, hp⟩ : ∃ p, s.data.toList = p := ⟨_, rfl⟩
  obtain rfl : s = ⟨p.toArray⟩ := by rw [← hp]
  clear hp
  rw [bytes_size] at hs
  have SPL := Lib.hid (fun w => splitp_any p 32 32 rfl hs w)
  have PL := Lib.hid (fun x hx => Nat.le_trans (splitC_le (c := 32) p x hx) hs)
  obtain ⟨s, hS⟩ : ∃ s : ByteArray, ⟨p.toArray⟩ = s := ⟨_, rfl⟩
  have hL : s.data.toList = p := by rw [← hS]
  rw [hS] at SPL ⊢
  rw [← hL] at SPL PL
  clear hS hL hs
  obtain ⟨ws, hws⟩ : ∃ ws, splitC 32 s.data.toList = ws := ⟨_, rfl⟩
  rw [hws] at SPL PL
  have UW := Lib.hid (show ∀ x, ProIs s x → ws.length = 5 ∧ splitC 32 s.data.toList = ws from fun x h => ⟨by rw [← hws, (pro_look h).1]; rfl, hws⟩)
  have MW := Lib.hid (show ∀ x : ProjectorD, projB x = true → (splitC 32 s.data.toList = ws → projTx x = s) → ProIs s x from fun x h1 h2 => ⟨h1, h2 hws⟩)
  clear hws
  go_enter Tryd.func83, Tryd.ntmps83
  go_wp2_with fail
  generalize hV : World.alloc _ _ = w1
  have hb1 : Below w.heap.size w w1 := by rw [← hV]; exact (Below.refl _ _).alloc (Nat.le_refl _) _
  have r1 : Blk w1 w.heap.size 59 #[.string ByteArray.empty, .int .i64 0, .int .i64 0, .int .i64 0, .int .i64 0] := by rw [← hV]; exact Blk.new w _ _
  clear hV
  refine (SPL.out w1).mono ?_
  rintro e w2 ⟨⟨A2, c2, rfl, own2, _⟩, hb2⟩
  clear SPL
  have HB2 := hb1.trans (hb2.mono hb1.size)
  have r2 := r1.below hb2 r1.lt
  clear r1
  by_cases q2 : ws.length = 5
  case neg =>
    have E := Lib.hid (show ∀ x, ¬ ProIs s x from fun x h => q2 (UW.out x h).1)
    have nd : ((ws.length : Int) == 5) = false := beq_eq_false_iff_ne.2 (fun e => q2 (by omega))
    clear q2 own2
    have z0 := r2.cell 0
    have z1 := r2.cell 1
    have z2 := r2.cell 2
    have z3 := r2.cell 3
    have z4 := r2.cell 4
    simp at z0 z1 z2 z3 z4
    have zl := r2.lt
    have zg0 := r2.frozen 0
    have zg1 := r2.frozen 1
    have zg2 := r2.frozen 2
    have zg3 := r2.frozen 3
    have zg4 := r2.frozen 4
    go_wp2_with fail
    refine bodyPost_ret (v := .tuple #[.agg #[.string ⟨#[]⟩, .int .i64 0, .int .i64 0, .int .i64 0, .int .i64 0], .bool false]) (by simp [results, Tryd.results83, go_sem, z0, z1, z2, z3, z4]) rfl ⟨retRP_no E.out, ?_⟩
    exact set5 HB2 _ _ _ _ _
  obtain ⟨p0, p1, p2, p3, p4, rfl⟩ := parts_five q2
  clear q2
  obtain ⟨B2, rfl, hB2, cw2⟩ := own_word (n := 4) own2
  have CW := Lib.hid cw2
  have l0 := PL.out p0 (by simp)
  have l1 := PL.out p1 (by simp)
  have l2 := PL.out p2 (by simp)
  have l3 := PL.out p3 (by simp)
  have l4 := PL.out p4 (by simp)
  have US := Lib.hid (show ∀ x, ProIs s x → angOk p1 = true ∧ angOk p2 = true ∧ angOk p3 = true ∧ numOk p4 = true ∧ x = ⟨⟨p0.toArray⟩, angV p1, angV p2, angV p3, numV p4⟩ from fun x h => pro_words h (UW.out x h).2)
  have B64 := Lib.hid (show angOk p1 = true → angOk p2 = true → angOk p3 = true → numOk p4 = true → ((-9223372036854775808 ≤ angV p1 ∧ angV p1 ≤ 9223372036854775807) ∧ (-9223372036854775808 ≤ angV p2 ∧ angV p2 ≤ 9223372036854775807) ∧ (-9223372036854775808 ≤ angV p3 ∧ angV p3 ≤ 9223372036854775807) ∧ -9223372036854775808 ≤ numV p4 ∧ numV p4 ≤ 9223372036854775807) from fun h1 h2 h3 h4 => ⟨ang_64 h1, ang_64 h2, ang_64 h3, num_64 h4⟩)
  have MK := Lib.hid (show angOk p1 = true → angOk p2 = true → angOk p3 = true → numOk p4 = true → projB ⟨⟨p0.toArray⟩, angV p1, angV p2, angV p3, numV p4⟩ = true → ProIs s ⟨⟨p0.toArray⟩, angV p1, angV p2, angV p3, numV p4⟩ from fun h1 h2 h3 h4 h5 => MW.out _ h5 (fun hw => pro_make hw h1 h2 h3 h4))
  clear MW
  clear cw2 own2 PL UW
  have x1 := CW.out w2 1 (Below.refl _ _) (by omega)
  simp only [List.getD_cons_zero, List.getD_cons_succ] at x1
  have xl1 : B2 < w2.heap.size := by exact hB2
  have C1 := Lib.hid (l02Read_any p1 l1 w2)
  unfold AngR at C1
  obtain ⟨a1, ha1⟩ : ∃ a, angV p1 = a := ⟨_, rfl⟩
  obtain ⟨b1, hb1'⟩ : ∃ b, angOk p1 = b := ⟨_, rfl⟩
  rw [ha1, hb1'] at C1 US B64 MK
  clear ha1 hb1'
  go_wp2_with fail
  refine C1.out.mono ?_
  rintro e w3 ⟨rfl, hb3⟩
  have HB3 := HB2.trans (hb3.mono HB2.size)
  have r3 := r2.below hb3 r2.lt
  have BB2 := hb3
  clear C1 x1 xl1 r2
  have x2 := CW.out w3 2 BB2 (by omega)
  simp only [List.getD_cons_zero, List.getD_cons_succ] at x2
  have xl2 : B2 < w3.heap.size := by have := BB2.size; omega
  have C2 := Lib.hid (l02Read_any p2 l2 w3)
  unfold AngR at C2
  obtain ⟨a2, ha2⟩ : ∃ a, angV p2 = a := ⟨_, rfl⟩
  obtain ⟨b2, hb2'⟩ : ∃ b, angOk p2 = b := ⟨_, rfl⟩
  rw [ha2, hb2'] at C2 US B64 MK
  clear ha2 hb2'
  go_wp2_with fail
  refine C2.out.mono ?_
  rintro e w4 ⟨rfl, hb4⟩
  have HB4 := HB3.trans (hb4.mono HB3.size)
  have r4 := r3.below hb4 r3.lt
  have BB3 := BB2.trans (hb4.mono BB2.size)
  clear C2 x2 xl2 r3
  have x3 := CW.out w4 3 BB3 (by omega)
  simp only [List.getD_cons_zero, List.getD_cons_succ] at x3
  have xl3 : B2 < w4.heap.size := by have := BB3.size; omega
  have C3 := Lib.hid (l02Read_any p3 l3 w4)
  unfold AngR at C3
  obtain ⟨a3, ha3⟩ : ∃ a, angV p3 = a := ⟨_, rfl⟩
  obtain ⟨b3, hb3'⟩ : ∃ b, angOk p3 = b := ⟨_, rfl⟩
  rw [ha3, hb3'] at C3 US B64 MK
  clear ha3 hb3'
  go_wp2_with fail
  refine C3.out.mono ?_
  rintro e w5 ⟨rfl, hb5⟩
  have HB5 := HB4.trans (hb5.mono HB4.size)
  have r5 := r4.below hb5 r4.lt
  have BB4 := BB3.trans (hb5.mono BB3.size)
  clear C3 x3 xl3 r4
  have x4 := CW.out w5 4 BB4 (by omega)
  simp only [List.getD_cons_zero, List.getD_cons_succ] at x4
  have xl4 : B2 < w5.heap.size := by have := BB4.size; omega
  have C4 := Lib.hid (number_eq p4 l4 w5)
  obtain ⟨a4, ha4⟩ : ∃ a, numV p4 = a := ⟨_, rfl⟩
  obtain ⟨b4, hb4'⟩ : ∃ b, numOk p4 = b := ⟨_, rfl⟩
  rw [ha4, hb4'] at C4 US B64 MK
  clear ha4 hb4'
  go_wp2_with fail
  refine C4.out.mono ?_
  rintro e w6 ⟨rfl, rfl⟩
  clear C4 x4 xl4
  have x0 := CW.out w5 0 BB4 (by omega)
  simp only [List.getD_cons_zero] at x0
  have xl0 : B2 < w5.heap.size := by have := BB4.size; omega
  have PS : (⟨p0.toArray⟩ : ByteArray).size ≤ 9223372036854775807 := by
    rw [bytes_size]
    omega
  generalize (⟨p0.toArray⟩ : ByteArray) = nm at *
  by_cases hall : b1 = true ∧ b2 = true ∧ b3 = true ∧ b4 = true
  case neg =>
    have E := Lib.hid (show ∀ x, ¬ ProIs s x from fun x h => by
      obtain ⟨h1, h2, h3, h4, _⟩ := US.out x h
      exact hall ⟨h1, h2, h3, h4⟩)
    have hno : b1 = false ∨ (b1 = true ∧ b2 = false) ∨ (b1 = true ∧ b2 = true ∧ b3 = false) ∨ (b1 = true ∧ b2 = true ∧ b3 = true ∧ b4 = false) := by
      cases b1 <;> cases b2 <;> cases b3 <;> cases b4 <;> simp at hall ⊢
    clear hall US B64
    have ra := r5.alloc (.cells #[.string nm, .int .i64 a1, .int .i64 a2, .int .i64 a3, .int .i64 a4] 59)
    have HBa := HB5.alloc HB5.size (.cells #[.string nm, .int .i64 a1, .int .i64 a2, .int .i64 a3, .int .i64 a4] 59)
    have z0 := ra.cell 0
    have z1 := ra.cell 1
    have z2 := ra.cell 2
    have z3 := ra.cell 3
    have z4 := ra.cell 4
    simp at z0 z1 z2 z3 z4
    have zl := ra.lt
    have zg0 := ra.frozen 0
    have zg1 := ra.frozen 1
    have zg2 := ra.frozen 2
    have zg3 := ra.frozen 3
    have zg4 := ra.frozen 4
    rcases hno with rfl | ⟨rfl, rfl⟩ | ⟨rfl, rfl, rfl⟩ | ⟨rfl, rfl, rfl, rfl⟩
    all_goals
      go_wp2_with fail
      refine bodyPost_ret (v := .tuple #[.agg #[.string ⟨#[]⟩, .int .i64 0, .int .i64 0, .int .i64 0, .int .i64 0], .bool false]) (by simp [results, Tryd.results83, go_sem, z0, z1, z2, z3, z4]) rfl ⟨retRP_no E.out, ?_⟩
      exact set5 HBa _ _ _ _ _
  obtain ⟨rfl, rfl, rfl, rfl⟩ := hall
  have GK := Lib.hid (show ProjectorOk ⟨nm, a1, a2, a3, a4⟩ from ⟨PS, B64.out rfl rfl rfl rfl⟩)
  clear B64
  go_upto_region 9 with fail
  generalize hV : World.alloc w5 _ = w8
  have hb8 : Below w5.heap.size w5 w8 := by rw [← hV]; exact (Below.refl _ _).alloc (Nat.le_refl _) _
  have k8 : Blk w8 w5.heap.size 59 #[.string nm, .int .i64 a1, .int .i64 a2, .int .i64 a3, .int .i64 a4] := by rw [← hV]; exact Blk.new w5 _ _
  clear hV
  have HB8 := HB5.trans (hb8.mono HB5.size)
  have r8 := r5.below hb8 r5.lt
  clear x0 xl0 r5
  obtain ⟨B8, hB8⟩ : ∃ B, w5.heap.size = B := ⟨_, rfl⟩
  rw [hB8] at k8 ⊢
  clear hB8
  have t0 := k8.cell 0
  have t1 := k8.cell 1
  have t2 := k8.cell 2
  have t3 := k8.cell 3
  have t4 := k8.cell 4
  simp at t0 t1 t2 t3 t4
  have tl := k8.lt
  have AT := Lib.hid (show ProjectorAt w8 B8 0 ⟨nm, a1, a2, a3, a4⟩ from ⟨k8.lt, k8.cell 0, k8.cell 1, k8.cell 2, k8.cell 3, k8.cell 4⟩)
  go_wp2_with fail
  refine (l10One_any B8 0 ⟨nm, a1, a2, a3, a4⟩ _ AT.out GK.out).mono ?_
  rintro e w9 ⟨rfl, rfl⟩
  have z0 := r8.cell 0
  have z1 := r8.cell 1
  have z2 := r8.cell 2
  have z3 := r8.cell 3
  have z4 := r8.cell 4
  simp at z0 z1 z2 z3 z4
  have zl := r8.lt
  have zg0 := r8.frozen 0
  have zg1 := r8.frozen 1
  have zg2 := r8.frozen 2
  have zg3 := r8.frozen 3
  have zg4 := r8.frozen 4
  rcases b_cases (projB ⟨nm, a1, a2, a3, a4⟩) with ok | ok
  · have E := Lib.hid (show ∀ x, ¬ ProIs s x from fun x h => by
      obtain ⟨_, _, _, _, e⟩ := US.out x h
      rw [← e, h.1] at ok
      cases ok)
    rw [ok]
    clear ok
    go_wp2_with fail
    refine bodyPost_ret (v := .tuple #[.agg #[.string ⟨#[]⟩, .int .i64 0, .int .i64 0, .int .i64 0, .int .i64 0], .bool false]) (by simp [results, Tryd.results83, go_sem, z0, z1, z2, z3, z4]) rfl ⟨retRP_no E.out, ?_⟩
    exact set5 HB8 _ _ _ _ _
  · have E := Lib.hid (retRP_yes (MK.out (by first | rfl | trivial) (by first | rfl | trivial) (by first | rfl | trivial) (by first | rfl | trivial) ok))
    rw [ok]
    clear ok
    go_wp2_with fail
    refine bodyPost_ret (v := .tuple #[.agg #[.string nm, .int .i64 a1, .int .i64 a2, .int .i64 a3, .int .i64 a4], .bool true]) (by simp [results, Tryd.results83, go_sem, z0, z1, z2, z3, z4]) rfl ⟨E.out, ?_⟩
    exact set5 HB8 _ _ _ _ _
set_option maxRecDepth 100000 in
theorem specReadProjector_any (s : ByteArray) (w : World) (hs : s.size ≤ 1048576) :
    Calls Tryd.prog 44 #[.string s] w fun e w' => RetRP s e ∧ Below w.heap.size w w' := by
  obtain ⟨n0, h0⟩ : ∃ x, mRP0 s = x := ⟨_, rfl⟩
  obtain ⟨n1, h1⟩ : ∃ x, mRP1 s = x := ⟨_, rfl⟩
  obtain ⟨n2, h2⟩ : ∃ x, mRP2 s = x := ⟨_, rfl⟩
  obtain ⟨n3, h3⟩ : ∃ x, mRP3 s = x := ⟨_, rfl⟩
  obtain ⟨n4, h4⟩ : ∃ x, mRP4 s = x := ⟨_, rfl⟩
  obtain ⟨nb, h5⟩ : ∃ x, rpB s = x := ⟨_, rfl⟩
  have RD := Lib.hid (fun w => l10Read_any s w hs)
  unfold RetRP at RD ⊢
  rw [h0, h1, h2, h3, h4, h5] at RD ⊢
  clear h0 h1 h2 h3 h4 h5
  go_enter Tryd.func44, Tryd.ntmps44
  go_wp2_with fail
  generalize hV : World.alloc _ _ = w1
  have hb1 : Below w.heap.size w w1 := by rw [← hV]; exact (Below.refl _ _).alloc (Nat.le_refl _) _
  have r1 : Blk w1 w.heap.size 59 #[.string ByteArray.empty, .int .i64 0, .int .i64 0, .int .i64 0, .int .i64 0] := by rw [← hV]; exact Blk.new w _ _
  clear hV
  refine (RD.out w1).mono ?_
  rintro e w2 ⟨rfl, hb2⟩
  have HB2 := hb1.trans (hb2.mono hb1.size)
  have r2 := r1.below hb2 r1.lt
  have z0 := r2.cell 0
  have z1 := r2.cell 1
  have z2 := r2.cell 2
  have z3 := r2.cell 3
  have z4 := r2.cell 4
  simp at z0 z1 z2 z3 z4
  have zl := r2.lt
  have zg0 := r2.frozen 0
  have zg1 := r2.frozen 1
  have zg2 := r2.frozen 2
  have zg3 := r2.frozen 3
  have zg4 := r2.frozen 4
  go_wp2_with fail
  refine bodyPost_ret (v := .tuple #[.agg #[.string n0, .int .i64 n1, .int .i64 n2, .int .i64 n3, .int .i64 n4], .bool nb]) (by simp [results, Tryd.results44, go_sem, z0, z1, z2, z3, z4]) rfl ⟨rfl, ?_⟩
  exact set5 HB2 _ _ _ _ _
end Go.Proofs.YtikonccofaiceaaDoor
