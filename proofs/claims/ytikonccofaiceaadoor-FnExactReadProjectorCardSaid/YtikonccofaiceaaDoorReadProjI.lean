/- ReadProjector by the program. Conditions: the size of a text; the library's variables lie. -/
import Derived.Test.YtikonccofaiceaaDoorReadProj
namespace Go.Proofs.YtikonccofaiceaaDoor
open Go.RowKit Go.Lib Go.Ks
set_option maxRecDepth 100000 in
set_option maxHeartbeats 8000000 in
theorem implReadProjector_any (s : ByteArray) (w : World) (hs : s.size ≤ 1048576) (hT : LibV w) :
    Calls Tryd.prog 45 #[.string s] w fun e w' => RetRP s e ∧ Below w.heap.size w w' := by
  have TT := Lib.hid hT
  clear hT
  have SPL := Lib.hid (fun w hT => splitWords_any s hs w hT)
  have PL := Lib.hid (show ∀ x ∈ wordsOf s.data.toList, x.length ≤ 1048576 from fun x hx => by
    unfold wordsOf at hx
    have := splitC_le s.data.toList x (List.mem_filter.1 hx).1
    rw [list_len] at this
    omega)
  obtain ⟨ws, hws⟩ : ∃ ws, wordsOf s.data.toList = ws := ⟨_, rfl⟩
  rw [hws] at SPL PL
  have UW := Lib.hid (show ∀ x, ProIs s x → ws.length = 5 ∧ splitC 32 s.data.toList = ws from fun x h => by
    obtain ⟨e, h1, h2, h3, h4, h5⟩ := pro_look h
    have e2 : wordsOf s.data.toList = splitC 32 s.data.toList := words_full (fun y hy => by
      rw [e] at hy
      simp only [List.mem_cons, List.not_mem_nil, or_false] at hy
      rcases hy with rfl | rfl | rfl | rfl | rfl
      · exact h5
      · exact (ang_32 h1).2
      · exact (ang_32 h2).2
      · exact (ang_32 h3).2
      · exact itoa_ne _)
    rw [← hws, e2]
    exact ⟨by rw [e]; rfl, rfl⟩)
  clear hws
  go_enter Tryd.func45, Tryd.ntmps45
  go_wp2_with fail
  generalize hV : World.alloc _ _ = w1
  have hb1 : Below w.heap.size w w1 := by rw [← hV]; exact (Below.refl _ _).alloc (Nat.le_refl _) _
  have r1 : Blk w1 w.heap.size 59 #[.string ByteArray.empty, .int .i64 0, .int .i64 0, .int .i64 0, .int .i64 0] := by rw [← hV]; exact Blk.new w _ _
  clear hV
  refine (SPL.out w1 (TT.out.below hb1)).mono ?_
  rintro e w2 ⟨⟨v2, rfl, row2⟩, hb2⟩
  obtain ⟨A2, c2, rfl, _, own2, _⟩ := row2.own
  clear row2
  clear SPL
  have HB2 := hb1.trans (hb2.mono hb1.size)
  have r2 := r1.below hb2 r1.lt
  clear r1
  by_cases q2 : ws.length = 5
  case neg =>
    have E := Lib.hid (show ∀ x, ¬ ProIs s x from fun x h => q2 (UW.out x h).1)
    have nd : ((ws.length : Int) == 5) = false := beq_eq_false_iff_ne.2 (fun e => q2 (by omega))
    clear q2 own2
    have z0 := r2.cell 0
    have z1 := r2.cell 1
    have z2 := r2.cell 2
    have z3 := r2.cell 3
    have z4 := r2.cell 4
    simp at z0 z1 z2 z3 z4
    have zl := r2.lt
    have zg0 := r2.frozen 0
    have zg1 := r2.frozen 1
    have zg2 := r2.frozen 2
    have zg3 := r2.frozen 3
    have zg4 := r2.frozen 4
    go_wp2_with fail
    refine bodyPost_ret (v := .tuple #[.agg #[.string ⟨#[]⟩, .int .i64 0, .int .i64 0, .int .i64 0, .int .i64 0], .bool false]) (by simp [results, Tryd.results45, go_sem, z0, z1, z2, z3, z4]) rfl ⟨retRP_no E.out, ?_⟩
    exact set5 HB2 _ _ _ _ _
  obtain ⟨p0, p1, p2, p3, p4, rfl⟩ := parts_five q2
  clear q2
  obtain ⟨B2, rfl, hB2, cw2⟩ := own_word (n := 4) own2
  have CW := Lib.hid cw2
  have l0 := PL.out p0 (by simp)
  have l1 := PL.out p1 (by simp)
  have l2 := PL.out p2 (by simp)
  have l3 := PL.out p3 (by simp)
  have l4 := PL.out p4 (by simp)
  have US := Lib.hid (show ∀ x, ProIs s x → angOk p1 = true ∧ angOk p2 = true ∧ angOk p3 = true ∧ numOk p4 = true ∧ x = ⟨⟨p0.toArray⟩, angV p1, angV p2, angV p3, numV p4⟩ from fun x h => pro_words h (UW.out x h).2)
  have B64 := Lib.hid (show angOk p1 = true → angOk p2 = true → angOk p3 = true → numOk p4 = true → ((-9223372036854775808 ≤ angV p1 ∧ angV p1 ≤ 9223372036854775807) ∧ (-9223372036854775808 ≤ angV p2 ∧ angV p2 ≤ 9223372036854775807) ∧ (-9223372036854775808 ≤ angV p3 ∧ angV p3 ≤ 9223372036854775807) ∧ -9223372036854775808 ≤ numV p4 ∧ numV p4 ≤ 9223372036854775807) from fun h1 h2 h3 h4 => ⟨ang_64 h1, ang_64 h2, ang_64 h3, num_64 h4⟩)
  clear cw2 own2 PL UW
  have x1 := CW.out w2 1 (Below.refl _ _) (by omega)
  simp only [List.getD_cons_zero, List.getD_cons_succ] at x1
  have xl1 : B2 < w2.heap.size := by exact hB2
  have C1 := Lib.hid (readAngle_any p1 l1 w2 (TT.out.below HB2))
  unfold AngR at C1
  obtain ⟨a1, ha1⟩ : ∃ a, angV p1 = a := ⟨_, rfl⟩
  obtain ⟨b1, hb1'⟩ : ∃ b, angOk p1 = b := ⟨_, rfl⟩
  rw [ha1, hb1'] at C1 US B64
  clear ha1 hb1'
  go_wp2_with fail
  refine C1.out.mono ?_
  rintro e w3 ⟨rfl, hb3⟩
  have HB3 := HB2.trans (hb3.mono HB2.size)
  have r3 := r2.below hb3 r2.lt
  have BB2 := hb3
  clear C1 x1 xl1 r2
  have x2 := CW.out w3 2 BB2 (by omega)
  simp only [List.getD_cons_zero, List.getD_cons_succ] at x2
  have xl2 : B2 < w3.heap.size := by have := BB2.size; omega
  have C2 := Lib.hid (readAngle_any p2 l2 w3 (TT.out.below HB3))
  unfold AngR at C2
  obtain ⟨a2, ha2⟩ : ∃ a, angV p2 = a := ⟨_, rfl⟩
  obtain ⟨b2, hb2'⟩ : ∃ b, angOk p2 = b := ⟨_, rfl⟩
  rw [ha2, hb2'] at C2 US B64
  clear ha2 hb2'
  go_wp2_with fail
  refine C2.out.mono ?_
  rintro e w4 ⟨rfl, hb4⟩
  have HB4 := HB3.trans (hb4.mono HB3.size)
  have r4 := r3.below hb4 r3.lt
  have BB3 := BB2.trans (hb4.mono BB2.size)
  clear C2 x2 xl2 r3
  have x3 := CW.out w4 3 BB3 (by omega)
  simp only [List.getD_cons_zero, List.getD_cons_succ] at x3
  have xl3 : B2 < w4.heap.size := by have := BB3.size; omega
  have C3 := Lib.hid (readAngle_any p3 l3 w4 (TT.out.below HB4))
  unfold AngR at C3
  obtain ⟨a3, ha3⟩ : ∃ a, angV p3 = a := ⟨_, rfl⟩
  obtain ⟨b3, hb3'⟩ : ∃ b, angOk p3 = b := ⟨_, rfl⟩
  rw [ha3, hb3'] at C3 US B64
  clear ha3 hb3'
  go_wp2_with fail
  refine C3.out.mono ?_
  rintro e w5 ⟨rfl, hb5⟩
  have HB5 := HB4.trans (hb5.mono HB4.size)
  have r5 := r4.below hb5 r4.lt
  have BB4 := BB3.trans (hb5.mono BB3.size)
  clear C3 x3 xl3 r4
  have x4 := CW.out w5 4 BB4 (by omega)
  simp only [List.getD_cons_zero, List.getD_cons_succ] at x4
  have xl4 : B2 < w5.heap.size := by have := BB4.size; omega
  have C4 := Lib.hid (decimal_eq p4 l4 w5 (TT.out.below HB5))
  obtain ⟨a4, ha4⟩ : ∃ a, numV p4 = a := ⟨_, rfl⟩
  obtain ⟨b4, hb4'⟩ : ∃ b, numOk p4 = b := ⟨_, rfl⟩
  rw [ha4, hb4'] at C4 US B64
  clear ha4 hb4'
  go_wp2_with fail
  refine C4.out.mono ?_
  rintro e w6 ⟨rfl, hb6⟩
  have HB6 := HB5.trans (hb6.mono HB5.size)
  have r6 := r5.below hb6 r5.lt
  have BB5 := BB4.trans (hb6.mono BB4.size)
  clear C4 x4 xl4 r5
  have x0 := CW.out w6 0 BB5 (by omega)
  simp only [List.getD_cons_zero] at x0
  have xl0 : B2 < w6.heap.size := by have := BB5.size; omega
  have PS : (⟨p0.toArray⟩ : ByteArray).size ≤ 9223372036854775807 := by
    rw [bytes_size]
    omega
  generalize (⟨p0.toArray⟩ : ByteArray) = nm at *
  by_cases hall : b1 = true ∧ b2 = true ∧ b3 = true ∧ b4 = true
  case neg =>
    have E := Lib.hid (show ∀ x, ¬ ProIs s x from fun x h => by
      obtain ⟨h1, h2, h3, h4, _⟩ := US.out x h
      exact hall ⟨h1, h2, h3, h4⟩)
    have hno : b1 = false ∨ (b1 = true ∧ b2 = false) ∨ (b1 = true ∧ b2 = true ∧ b3 = false) ∨ (b1 = true ∧ b2 = true ∧ b3 = true ∧ b4 = false) := by
      cases b1 <;> cases b2 <;> cases b3 <;> cases b4 <;> simp at hall ⊢
    clear hall US B64
    have ra := r6.alloc (.cells #[.string nm, .int .i64 a1, .int .i64 a2, .int .i64 a3, .int .i64 a4] 59)
    have HBa := HB6.alloc HB6.size (.cells #[.string nm, .int .i64 a1, .int .i64 a2, .int .i64 a3, .int .i64 a4] 59)
    have z0 := ra.cell 0
    have z1 := ra.cell 1
    have z2 := ra.cell 2
    have z3 := ra.cell 3
    have z4 := ra.cell 4
    simp at z0 z1 z2 z3 z4
    have zl := ra.lt
    have zg0 := ra.frozen 0
    have zg1 := ra.frozen 1
    have zg2 := ra.frozen 2
    have zg3 := ra.frozen 3
    have zg4 := ra.frozen 4
    rcases hno with rfl | ⟨rfl, rfl⟩ | ⟨rfl, rfl, rfl⟩ | ⟨rfl, rfl, rfl, rfl⟩
    all_goals
      go_wp2_with fail
      refine bodyPost_ret (v := .tuple #[.agg #[.string ⟨#[]⟩, .int .i64 0, .int .i64 0, .int .i64 0, .int .i64 0], .bool false]) (by simp [results, Tryd.results45, go_sem, z0, z1, z2, z3, z4]) rfl ⟨retRP_no E.out, ?_⟩
      exact set5 HBa _ _ _ _ _
  obtain ⟨rfl, rfl, rfl, rfl⟩ := hall
  have GK := Lib.hid (show ProjectorOk ⟨nm, a1, a2, a3, a4⟩ from ⟨PS, B64.out rfl rfl rfl rfl⟩)
  clear B64
  go_upto_region 9 with fail
  generalize hV : World.alloc w6 _ = w8
  have hb8 : Below w6.heap.size w6 w8 := by rw [← hV]; exact (Below.refl _ _).alloc (Nat.le_refl _) _
  have k8 : Blk w8 w6.heap.size 59 #[.string nm, .int .i64 a1, .int .i64 a2, .int .i64 a3, .int .i64 a4] := by rw [← hV]; exact Blk.new w6 _ _
  clear hV
  have HB8 := HB6.trans (hb8.mono HB6.size)
  have r8 := r6.below hb8 r6.lt
  clear x0 xl0 r6
  obtain ⟨B8, hB8⟩ : ∃ B, w6.heap.size = B := ⟨_, rfl⟩
  rw [hB8] at k8 ⊢
  clear hB8
  have t0 := k8.cell 0
  have t1 := k8.cell 1
  have t2 := k8.cell 2
  have t3 := k8.cell 3
  have t4 := k8.cell 4
  simp at t0 t1 t2 t3 t4
  have tl := k8.lt
  go_wp2_with fail
  refine (validProjector_any ⟨nm, a1, a2, a3, a4⟩ _ GK.out).mono ?_
  rintro e w9 ⟨rfl, hb9⟩
  have HB9 := HB8.trans (hb9.mono HB8.size)
  have r9 := r8.below hb9 r8.lt
  have k9 := k8.below hb9 k8.lt
  clear t0 t1 t2 t3 t4 tl r8 k8
  have t0 := k9.cell 0
  have t1 := k9.cell 1
  have t2 := k9.cell 2
  have t3 := k9.cell 3
  have t4 := k9.cell 4
  simp at t0 t1 t2 t3 t4
  have tl := k9.lt
  rcases b_cases (projB ⟨nm, a1, a2, a3, a4⟩) with ok | ok
  · have E := Lib.hid (show ∀ x, ¬ ProIs s x from fun x h => by
      obtain ⟨_, _, _, _, e⟩ := US.out x h
      rw [← e, h.1] at ok
      cases ok)
    rw [ok]
    clear ok
    have z0 := r9.cell 0
    have z1 := r9.cell 1
    have z2 := r9.cell 2
    have z3 := r9.cell 3
    have z4 := r9.cell 4
    simp at z0 z1 z2 z3 z4
    have zl := r9.lt
    have zg0 := r9.frozen 0
    have zg1 := r9.frozen 1
    have zg2 := r9.frozen 2
    have zg3 := r9.frozen 3
    have zg4 := r9.frozen 4
    go_wp2_with fail
    refine bodyPost_ret (v := .tuple #[.agg #[.string ⟨#[]⟩, .int .i64 0, .int .i64 0, .int .i64 0, .int .i64 0], .bool false]) (by simp [results, Tryd.results45, go_sem, z0, z1, z2, z3, z4]) rfl ⟨retRP_no E.out, ?_⟩
    exact set5 HB9 _ _ _ _ _
  · have PT := Lib.hid (implProjectorText_any nm a1 a2 a3 a4 w9 GK.out.1 GK.out.2.1 GK.out.2.2.1 GK.out.2.2.2.1 GK.out.2.2.2.2 (TT.out.below HB9).1)
    rw [show mPT ⟨nm, a1, a2, a3, a4⟩ = projTx ⟨nm, a1, a2, a3, a4⟩ by unfold mPT; rw [ok]; rfl] at PT
    have OK := Lib.hid ok
    rw [ok]
    clear ok
    go_wp2_with fail
    refine PT.out.mono ?_
    rintro e w10 ⟨rfl, hb10⟩
    clear PT
    have HB10 := HB9.trans (hb10.mono HB9.size)
    have r10 := r9.below hb10 r9.lt
    have k10 := k9.below hb10 k9.lt
    clear t0 t1 t2 t3 t4 tl r9 k9
    have t0 := k10.cell 0
    have t1 := k10.cell 1
    have t2 := k10.cell 2
    have t3 := k10.cell 3
    have t4 := k10.cell 4
    simp at t0 t1 t2 t3 t4
    have tl := k10.lt
    have z0 := r10.cell 0
    have z1 := r10.cell 1
    have z2 := r10.cell 2
    have z3 := r10.cell 3
    have z4 := r10.cell 4
    simp at z0 z1 z2 z3 z4
    have zl := r10.lt
    have zg0 := r10.frozen 0
    have zg1 := r10.frozen 1
    have zg2 := r10.frozen 2
    have zg3 := r10.frozen 3
    have zg4 := r10.frozen 4
    by_cases q : projTx ⟨nm, a1, a2, a3, a4⟩ = s
    · have E := Lib.hid (retRP_yes (s := s) (x := ⟨nm, a1, a2, a3, a4⟩) ⟨OK.out, q⟩)
      rw [q]
      clear q
      go_wp2_with fail
      refine bodyPost_ret (v := .tuple #[.agg #[.string nm, .int .i64 a1, .int .i64 a2, .int .i64 a3, .int .i64 a4], .bool true]) (by simp [results, Tryd.results45, go_sem, z0, z1, z2, z3, z4]) rfl ⟨E.out, ?_⟩
      exact set5 HB10 _ _ _ _ _
    · have E := Lib.hid (show ∀ x, ¬ ProIs s x from fun x h => by
        obtain ⟨_, _, _, _, e⟩ := US.out x h
        rw [e] at h
        exact q h.2)
      have q1 : ((projTx ⟨nm, a1, a2, a3, a4⟩).toList == s.toList) = false := text_ne q
      go_wp2_with fail
      refine bodyPost_ret (v := .tuple #[.agg #[.string ⟨#[]⟩, .int .i64 0, .int .i64 0, .int .i64 0, .int .i64 0], .bool false]) (by simp [results, Tryd.results45, go_sem, z0, z1, z2, z3, z4]) rfl ⟨retRP_no E.out, ?_⟩
      exact set5 HB10 _ _ _ _ _
end Go.Proofs.YtikonccofaiceaaDoor
