/- ReadDome by the program. Conditions: the size of a text; the library's variables lie. -/
import Derived.Test.YthjllledhcfnhaaGreatDoorReadList
import Derived.Test.YthjllledhcfnhaaGreatDoorDomeText
import Derived.Test.YthjllledhcfnhaaGreatDoorTail
import Derived.Deep.RegionWith
import Derived.Deep.DeepCutAuto
namespace Go.Ks.Tx
open Go.RowKit Go.Lib
theorem list2_list (a b : Int) : (list2 a b).data.toList = Lib.itoa a ++ 44 :: Lib.itoa b := by
  unfold list2
  rw [text_list, text_list, dec_list, dec_list]
  simp
theorem list2_split (a b : Int) : splitC 44 (list2 a b).data.toList = [Lib.itoa a, Lib.itoa b] := by rw [list2_list, split_two (itoa_44 _) (itoa_44 _)]
theorem list2_32 (a b : Int) : (32 : UInt8) ∉ (list2 a b).data.toList := fun h => by
  rw [list2_list] at h
  rcases List.mem_append.1 h with h | h
  · exact itoa_32 _ h
  · rcases List.mem_cons.1 h with h | h
    · revert h; decide
    · exact itoa_32 _ h
theorem dome_list (x : DomeD) : (domeTx x).data.toList = x.f0.data.toList ++ 32 :: (list2 x.f1 x.f2).data.toList := by
  unfold domeTx
  rw [text_list, text_list]
  simp
end Go.Ks.Tx
namespace Go.Proofs.YthjllledhcfnhaaGreatDoor.Tx
open Go.RowKit Go.Lib Go.Ks Go.Ks.Tx
theorem name_32 {s : ByteArray} (h : NameOk s) : (32 : UInt8) ∉ s.data.toList := fun hm => by
  obtain ⟨i, hi⟩ := List.getElem?_of_mem hm
  have hb := Go.Ks.Tx.bt_list hi
  have hlt : i < s.size := by
    have := (List.getElem?_eq_some_iff.1 hi).1
    simpa using this
  have h2 := h.2.2.2 i hlt
  have e : bt s i = 32 := hb
  rw [e] at h2
  revert h2
  decide
/-- the dome with a text -/
def DomIs (s : ByteArray) (x : DomeD) : Prop := domeB x = true ∧ domeTx x = s
theorem dom_look {s : ByteArray} {x : DomeD} (h : DomIs s x) : s.data.toList = x.f0.data.toList ++ 32 :: (list2 x.f1 x.f2).data.toList ∧ splitC 32 s.data.toList = [x.f0.data.toList, (list2 x.f1 x.f2).data.toList] ∧ Lst2 (list2 x.f1 x.f2).data.toList ∧ numV (Lib.itoa x.f1) = x.f1 ∧ numV (Lib.itoa x.f2) = x.f2 := by
  obtain ⟨ok, rfl⟩ := h
  obtain ⟨⟨a1, a2⟩, a3, a4⟩ := dome_nums ok
  have h0 := itoa_num (n := x.f1) (by omega)
  have h1 := itoa_num (n := x.f2) (by omega)
  refine ⟨dome_list x, by rw [dome_list, split_two (name_32 (domeB_iff.1 ok).1) (list2_32 _ _)], ⟨_, _, list2_split _ _, ⟨h0.1, by rw [h0.2]; exact ⟨by omega, by omega⟩⟩, h1.1, by rw [h1.2]; exact ⟨by omega, by omega⟩⟩, h0.2, h1.2⟩
theorem DomeD.same {x y : DomeD} (h0 : x.f0 = y.f0) (h1 : x.f1 = y.f1) (h2 : x.f2 = y.f2) : x = y := by
  cases x; cases y
  simp only at h0 h1 h2
  rw [h0, h1, h2]
theorem dom_uniq {s : ByteArray} {x y : DomeD} (h : DomIs s x) (h' : DomIs s y) : x = y := by
  obtain ⟨_, a, _, a1, a2⟩ := dom_look h
  obtain ⟨_, b, _, b1, b2⟩ := dom_look h'
  rw [a] at b
  injection b with e0 e1
  injection e1 with e1 _
  have l := list2_split x.f1 x.f2
  rw [e1, list2_split] at l
  injection l with e2 e3
  injection e3 with e3 _
  exact DomeD.same (text_eq e0) (itoa_inj e2).symm (itoa_inj e3).symm
open Classical in
noncomputable def rdB (s : ByteArray) : Bool := if ∃ x, DomIs s x then true else false
open Classical in
noncomputable def rdX (s : ByteArray) : DomeD := if h : ∃ x, DomIs s x then h.choose else ⟨ByteArray.empty, 0, 0⟩
noncomputable def mRD0 (s : ByteArray) : ByteArray := (rdX s).f0
noncomputable def mRD1 (s : ByteArray) : Int := (rdX s).f1
noncomputable def mRD2 (s : ByteArray) : Int := (rdX s).f2
/-- what a reader of domes hands back -/
def RetRD (s : ByteArray) (e : Ending) : Prop := e = .returned (.tuple #[.agg #[.string (mRD0 s), .int .i64 (mRD1 s), .int .i64 (mRD2 s)], .bool (rdB s)])
theorem retRD_no {s : ByteArray} (h : ∀ x, ¬ DomIs s x) : RetRD s (.returned (.tuple #[.agg #[.string ByteArray.empty, .int .i64 0, .int .i64 0], .bool false])) := by
  have hx : ¬ ∃ x, DomIs s x := fun ⟨x, hx⟩ => h x hx
  have e1 : rdB s = false := if_neg hx
  have e2 : rdX s = ⟨ByteArray.empty, 0, 0⟩ := dif_neg hx
  unfold RetRD mRD0 mRD1 mRD2
  rw [e1, e2]
theorem retRD_yes {s : ByteArray} {x : DomeD} (h : DomIs s x) : RetRD s (.returned (.tuple #[.agg #[.string x.f0, .int .i64 x.f1, .int .i64 x.f2], .bool true])) := by
  have hx : ∃ x, DomIs s x := ⟨x, h⟩
  have e1 : rdB s = true := if_pos hx
  have e2 : rdX s = x := by
    unfold rdX
    rw [dif_pos hx]
    exact dom_uniq hx.choose_spec h
  unfold RetRD mRD0 mRD1 mRD2
  rw [e1, e2]
/-- what is read is a dome with the text -/
theorem dom_make {s : ByteArray} {p0 p1 a b : List UInt8} (h : s.data.toList = p0 ++ 32 :: p1) (h2 : splitC 44 p1 = [a, b]) (ha : numOk a = true) (hb : numOk b = true) : domeTx ⟨⟨p0.toArray⟩, numV a, numV b⟩ = s := by
  refine text_eq ?_
  rw [dome_list, list2_list, h, two_join h2, (num_of ha).2, (num_of hb).2]
theorem win_64 {x : Int} (h : WiN x) : -9223372036854775808 ≤ x ∧ x ≤ 9223372036854775807 := by
  obtain ⟨a, b⟩ := h
  exact ⟨by omega, by omega⟩
end Go.Proofs.YthjllledhcfnhaaGreatDoor.Tx
namespace Go.Proofs.YthjllledhcfnhaaGreatDoor.Tx
open Go.RowKit Go.Lib Go.Ks Go.Ks.Tx
set_option maxRecDepth 100000 in
set_option maxHeartbeats 4000000 in
theorem implReadDome_any (s : ByteArray) (w : World) (hs : s.size ≤ 1048576) (hT : LibV w) :
    Calls Tryz.prog 30 #[.string s] w fun e w' => RetRD s e ∧ Below w.heap.size w w' := by
  obtain ⟨p, hp⟩ : ∃ p, s.data.toList = p := ⟨_, rfl⟩
  obtain rfl : s = ⟨p.toArray⟩ := by rw [← hp]
  clear hp
  rw [bytes_size] at hs
  have CUT := Lib.hid (fun w hT => cutc_any 32 p hs w hT)
  obtain ⟨cl0, cl1⟩ := cut_len 32 p
  obtain ⟨s, hS⟩ : ∃ s : ByteArray, ⟨p.toArray⟩ = s := ⟨_, rfl⟩
  have HL := Lib.hid (show s.data.toList = p by rw [← hS])
  rw [hS] at CUT ⊢
  clear hS
  have TT := Lib.hid hT
  clear hT
  obtain ⟨p0, hp0⟩ : ∃ x, (Lib.cut p [32]).1 = x := ⟨_, rfl⟩
  obtain ⟨p1, hp1⟩ : ∃ x, (Lib.cut p [32]).2.1 = x := ⟨_, rfl⟩
  obtain ⟨p2, hp2⟩ : ∃ x, (Lib.cut p [32]).2.2 = x := ⟨_, rfl⟩
  rw [hp0, hp1, hp2] at CUT
  rw [hp0] at cl0
  rw [hp1] at cl1
  have DC := Lib.hid (show ∀ x, DomIs s x → p0 = x.f0.data.toList ∧ p1 = (list2 x.f1 x.f2).data.toList from fun x h => by
    obtain ⟨e0, _⟩ := dom_look h
    rw [HL.out] at e0
    have hc := cut_app (l := (list2 x.f1 x.f2).data.toList) (name_32 (domeB_iff.1 h.1).1)
    rw [← e0] at hc
    rw [← hp0, ← hp1, hc]
    exact ⟨rfl, rfl⟩)
  clear hp0 hp1 hp2
  go_enter Tryz.func30, Tryz.ntmps30
  go_wp2_with fail
  generalize hV : World.alloc _ _ = w1
  have hb1 : Below w.heap.size w w1 := by rw [← hV]; exact (Below.refl _ _).alloc (Nat.le_refl _) _
  have r1 : Blk w1 w.heap.size 46 #[.string ByteArray.empty, .int .i64 0, .int .i64 0] := by rw [← hV]; exact Blk.new w _ _
  clear hV
  refine (CUT.out w1 (TT.out.below hb1)).mono ?_
  rintro e w2 ⟨rfl, hb2⟩
  clear CUT
  have HB2 := hb1.trans (hb2.mono hb1.size)
  have r2 := r1.below hb2 r1.lt
  go_wp2_with fail
  refine (implReadList_any p1 (by omega) _ (TT.out.below HB2)).mono ?_
  rintro e w3 ⟨hR, hb3⟩
  have HB3 := HB2.trans (hb3.mono HB2.size)
  have r3 := r2.below hb3 r2.lt
  have E0 := Lib.hid (show ¬ Lst2 p1 → ∀ x, ¬ DomIs s x from fun hn x h => by
    obtain ⟨_, e1⟩ := DC.out x h
    obtain ⟨_, _, b, _⟩ := dom_look h
    exact hn (e1 ▸ b))
  clear r1 r2
  rcases hR with ⟨rfl, hno⟩ | ⟨A3, n3, c3, rfl, _, hR⟩
  · have E := Lib.hid (E0.out hno)
    clear hno
    have z0 := r3.cell 0
    have z1 := r3.cell 1
    have z2 := r3.cell 2
    simp at z0 z1 z2
    have zl := r3.lt
    have zg0 := r3.frozen 0
    have zg1 := r3.frozen 1
    have zg2 := r3.frozen 2
    go_wp2_with fail
    refine bodyPost_ret (v := .tuple #[.agg #[.string ⟨#[]⟩, .int .i64 0, .int .i64 0], .bool false]) (by simp [results, Tryz.results30, go_sem, z0, z1, z2]) rfl ⟨retRD_no E.out, ?_⟩
    exact ((HB3.setCell (p := ⟨w.heap.size, 0, none⟩) (Nat.le_refl _) _).setCell (p := ⟨w.heap.size, 1, none⟩) (Nat.le_refl _) _).setCell (p := ⟨w.heap.size, 2, none⟩) (Nat.le_refl _) _
  · rcases hR with ⟨hn2, hno⟩ | ⟨rfl, hyes, own3⟩
    · have E := Lib.hid (E0.out hno)
      have nd : ((n3 : Int) == 2) = false := beq_eq_false_iff_ne.2 (fun e => hn2 (by omega))
      clear hno hn2
      have z0 := r3.cell 0
      have z1 := r3.cell 1
      have z2 := r3.cell 2
      simp at z0 z1 z2
      have zl := r3.lt
      have zg0 := r3.frozen 0
      have zg1 := r3.frozen 1
      have zg2 := r3.frozen 2
      go_wp2_with fail
      refine bodyPost_ret (v := .tuple #[.agg #[.string ⟨#[]⟩, .int .i64 0, .int .i64 0], .bool false]) (by simp [results, Tryz.results30, go_sem, z0, z1, z2]) rfl ⟨retRD_no E.out, ?_⟩
      exact ((HB3.setCell (p := ⟨w.heap.size, 0, none⟩) (Nat.le_refl _) _).setCell (p := ⟨w.heap.size, 1, none⟩) (Nat.le_refl _) _).setCell (p := ⟨w.heap.size, 2, none⟩) (Nat.le_refl _) _
    · obtain ⟨a, b, e1, ⟨oa, wa⟩, ob, wb⟩ := hyes
      rw [e1] at own3
      rcases own3 with ⟨_, h0⟩ | ⟨B3, m3, h3, rfl, hB3, kb3, hm3, hh3⟩
      · omega
      have y0 := kb3.cell 0
      have y1 := kb3.cell 1
      rw [arr_get _ _ _ (by omega), hh3 _ (by omega)] at y0 y1
      have y0' : w3.cell? ⟨B3, 0, none⟩ = some (.int .i64 (numV a)) := y0
      have y1' : w3.cell? ⟨B3, 1, none⟩ = some (.int .i64 (numV b)) := y1
      have yl := kb3.lt
      have UN := Lib.hid (show ∀ x, DomIs s x → x = ⟨⟨p0.toArray⟩, numV a, numV b⟩ from fun x h => by
        obtain ⟨f0, f1⟩ := DC.out x h
        obtain ⟨e0, e2, e3, e4, e5⟩ := dom_look h
        have l := list2_split x.f1 x.f2
        rw [← f1, e1] at l
        injection l with l1 l2
        injection l2 with l2 _
        exact DomeD.same (by rw [f0]) (by rw [l1, e4]) (by rw [l2, e5]))
      have WA := Lib.hid (win_64 wa)
      have WB := Lib.hid (win_64 wb)
      clear e1 oa wa ob wb y0 y1 kb3 hh3 hm3 E0 DC
      generalize numV a = na at *
      generalize numV b = nb at *
      have PS : (⟨p0.toArray⟩ : ByteArray).size ≤ 9223372036854775807 := by
        rw [bytes_size]
        omega
      generalize (⟨p0.toArray⟩ : ByteArray) = nm at *
      go_upto_region 5 with fail
      go_cut [9] (fun q wr => ∃ B, q = .pointer (some ⟨B, 0, none⟩) ∧ Blk wr B 46 #[.string nm, .int .i64 na, .int .i64 nb] ∧ w3.heap.size ≤ B ∧ Below w3.heap.size w3 wr)
      case first =>
        go_region_with (fail)
        all_goals (try go_wp2_with fail)
        all_goals go_meet
        all_goals exact ⟨_, rfl, (Blk.new w3 _ _), Nat.le_refl _, by repeat (first | with_reducible exact Below.refl _ _ | with_reducible assumption | with_reducible refine Below.setCell ?_ (by first | omega | (simp <;> omega)) _ | with_reducible refine Below.alloc ?_ (by first | omega | (simp <;> omega)) _ | with_reducible refine Below.drew ?_)⟩
      obtain ⟨B4, rfl, k4, hB4, hb4⟩ := hcut
      obtain ⟨w4, rfl⟩ : ∃ q : World, q = wc := ⟨_, rfl⟩
      have HB4 := HB3.trans (hb4.mono HB3.size)
      have r4 := r3.below hb4 r3.lt
      clear y0' y1' yl r3
      have t0 := k4.cell 0
      have t1 := k4.cell 1
      have t2 := k4.cell 2
      simp at t0 t1 t2
      have tl := k4.lt
      go_wp2_with fail
      refine (validDome_any ⟨nm, na, nb⟩ _ PS).mono ?_
      rintro e w5 ⟨rfl, hb5⟩
      have HB5 := HB4.trans (hb5.mono HB4.size)
      have r5 := r4.below hb5 r4.lt
      have k5 := k4.below hb5 k4.lt
      clear t0 t1 t2 tl r4 k4
      have t0 := k5.cell 0
      have t1 := k5.cell 1
      have t2 := k5.cell 2
      simp at t0 t1 t2
      have tl := k5.lt
      rcases b_cases (domeB ⟨nm, na, nb⟩) with ok | ok
      · have E := Lib.hid (show ∀ x, ¬ DomIs s x from fun x h => by
          have e := UN.out x h
          rw [e] at h
          rw [h.1] at ok
          cases ok)
        rw [ok]
        clear ok
        have z0 := r5.cell 0
        have z1 := r5.cell 1
        have z2 := r5.cell 2
        simp at z0 z1 z2
        have zl := r5.lt
        have zg0 := r5.frozen 0
        have zg1 := r5.frozen 1
        have zg2 := r5.frozen 2
        go_wp2_with fail
        refine bodyPost_ret (v := .tuple #[.agg #[.string ⟨#[]⟩, .int .i64 0, .int .i64 0], .bool false]) (by simp [results, Tryz.results30, go_sem, z0, z1, z2]) rfl ⟨retRD_no E.out, ?_⟩
        exact ((HB5.setCell (p := ⟨w.heap.size, 0, none⟩) (Nat.le_refl _) _).setCell (p := ⟨w.heap.size, 1, none⟩) (Nat.le_refl _) _).setCell (p := ⟨w.heap.size, 2, none⟩) (Nat.le_refl _) _
      · have DT := Lib.hid (implDomeText_any nm na nb w5 PS WA.out WB.out (TT.out.below HB5).1)
        rw [show mDT ⟨nm, na, nb⟩ = domeTx ⟨nm, na, nb⟩ by unfold mDT; rw [ok]; rfl] at DT
        have OK := Lib.hid ok
        rw [ok]
        clear ok
        go_wp2_with fail
        refine DT.out.mono ?_
        rintro e w6 ⟨rfl, hb6⟩
        clear DT
        have HB6 := HB5.trans (hb6.mono HB5.size)
        have r6 := r5.below hb6 r5.lt
        have k6 := k5.below hb6 k5.lt
        clear t0 t1 t2 tl r5 k5
        have t0 := k6.cell 0
        have t1 := k6.cell 1
        have t2 := k6.cell 2
        simp at t0 t1 t2
        have tl := k6.lt
        have z0 := r6.cell 0
        have z1 := r6.cell 1
        have z2 := r6.cell 2
        simp at z0 z1 z2
        have zl := r6.lt
        have zg0 := r6.frozen 0
        have zg1 := r6.frozen 1
        have zg2 := r6.frozen 2
        by_cases q : domeTx ⟨nm, na, nb⟩ = s
        · have E := Lib.hid (retRD_yes ⟨OK.out, q⟩)
          rw [q]
          clear q
          go_wp2_with fail
          refine bodyPost_ret (v := .tuple #[.agg #[.string nm, .int .i64 na, .int .i64 nb], .bool true]) (by simp [results, Tryz.results30, go_sem, z0, z1, z2]) rfl ⟨E.out, ?_⟩
          exact ((HB6.setCell (p := ⟨w.heap.size, 0, none⟩) (Nat.le_refl _) _).setCell (p := ⟨w.heap.size, 1, none⟩) (Nat.le_refl _) _).setCell (p := ⟨w.heap.size, 2, none⟩) (Nat.le_refl _) _
        · have E := Lib.hid (show ∀ x, ¬ DomIs s x from fun x h => by
            have e := UN.out x h
            rw [e] at h
            exact q h.2)
          have q1 : ((domeTx ⟨nm, na, nb⟩).toList == s.toList) = false := text_ne q
          go_wp2_with fail
          refine bodyPost_ret (v := .tuple #[.agg #[.string ⟨#[]⟩, .int .i64 0, .int .i64 0], .bool false]) (by simp [results, Tryz.results30, go_sem, z0, z1, z2]) rfl ⟨retRD_no E.out, ?_⟩
          exact ((HB6.setCell (p := ⟨w.heap.size, 0, none⟩) (Nat.le_refl _) _).setCell (p := ⟨w.heap.size, 1, none⟩) (Nat.le_refl _) _).setCell (p := ⟨w.heap.size, 2, none⟩) (Nat.le_refl _) _
end Go.Proofs.YthjllledhcfnhaaGreatDoor.Tx
