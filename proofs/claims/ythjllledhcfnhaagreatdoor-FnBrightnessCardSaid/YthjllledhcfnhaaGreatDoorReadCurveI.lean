/- ReadCurve by the program. Conditions: the size of a text; the library's variables lie. -/
import Derived.Test.YthjllledhcfnhaaGreatDoorReadCurve
import Derived.Test.YthjllledhcfnhaaGreatDoorReadImpl
import Derived.Test.YthjllledhcfnhaaGreatDoorTail
namespace Go.Ks.Tx
open Go.RowKit Go.Lib
/-- a word cut at its colon -/
noncomputable def cutK (x : List UInt8) : KnotD := ⟨numV (Lib.cut x [58]).1, numV (Lib.cut x [58]).2.1⟩
def CutOk (x : List UInt8) : Prop := numOk (Lib.cut x [58]).1 = true ∧ numOk (Lib.cut x [58]).2.1 = true
theorem cut_knot {x : KnotD} (h0 : 0 ≤ x.f0 ∧ x.f0 ≤ 1000) (h1 : 0 ≤ x.f1 ∧ x.f1 ≤ 1000) : CutOk (knotTx x).data.toList ∧ cutK (knotTx x).data.toList = x := by
  have n0 : IsNum (Lib.itoa x.f0) x.f0 := ⟨by omega, rfl⟩
  have n1 : IsNum (Lib.itoa x.f1) x.f1 := ⟨by omega, rfl⟩
  unfold CutOk cutK
  rw [knot_list, cut_app (itoa_58 _)]
  exact ⟨⟨(num_yes n0).1, (num_yes n1).1⟩, by simp only; rw [(num_yes n0).2, (num_yes n1).2]⟩
end Go.Ks.Tx
namespace Go.Proofs.YthjllledhcfnhaaGreatDoor.Tx
open Go.RowKit Go.Lib Go.Ks Go.Ks.Tx
theorem words_all {s : ByteArray} {n : Nat} {l : Nat → KnotD} (hn : 1 ≤ n) (h : curveTx l n = s) : wordsOf s.data.toList = splitC 32 s.data.toList := by
  obtain ⟨a, b⟩ := cur_words hn h
  unfold wordsOf
  rw [List.filter_eq_self]
  intro x hx
  obtain ⟨j, hj⟩ := List.getElem?_of_mem hx
  have hjl : j < n := by
    have := (List.getElem?_eq_some_iff.1 hj).1
    omega
  have hb := b j hjl
  rw [List.getD_eq_getElem?_getD, hj] at hb
  simp only [Option.getD_some] at hb
  rw [hb]
  exact decide_eq_true (knot_ne _)
theorem cur_cut {s : ByteArray} {n : Nat} {l : Nat → KnotD} (h : CurIs s n l) : (wordsOf s.data.toList).length = n ∧ ∀ j, j < n → CutOk ((wordsOf s.data.toList).getD j []) ∧ cutK ((wordsOf s.data.toList).getD j []) = l j := by
  have hn : 1 ≤ n := by have := h.1.1; omega
  obtain ⟨a, b⟩ := cur_words hn h.2
  rw [words_all hn h.2]
  refine ⟨a, fun j hj => ?_⟩
  rw [b j hj]
  exact cut_knot (curve_in h.1 hj) (curve_out h.1 hj)
theorem words_le : ∀ l : List UInt8, ((splitC 32 l).filter (fun x => decide (x ≠ []))).length ≤ l.length
  | [] => by simp [splitC]
  | b :: l => by
    have ih := words_le l
    obtain ⟨y, t, e⟩ := splitC_cons 32 l
    rw [splitC]
    rw [e] at ih ⊢
    split
    · rw [List.filter_cons_of_neg (by simp)]
      rw [List.length_cons]; omega
    · rw [List.tail_cons, List.filter_cons_of_pos (by simp), List.length_cons, List.length_cons]
      have h2 : (t.filter (fun x => decide (x ≠ []))).length ≤ ((y :: t).filter (fun x => decide (x ≠ []))).length := by
        rw [List.filter_cons]
        split
        · rw [List.length_cons]; omega
        · omega
      omega
theorem wordsOf_le (s : ByteArray) : (wordsOf s.data.toList).length ≤ s.size := words_le _
theorem wordsOf_len (s : ByteArray) (k : Nat) : ((wordsOf s.data.toList).getD k []).length ≤ s.size := by
  rw [List.getD_eq_getElem?_getD]
  cases h : (wordsOf s.data.toList)[k]? with
  | none => simp
  | some x =>
    have hx := List.mem_of_getElem? h
    unfold wordsOf at hx
    exact splitC_le s.data.toList x (List.mem_filter.1 hx).1
theorem curveTx_congr {l l' : Nat → KnotD} : ∀ n, (∀ j, j < n → l j = l' j) → curveTx l n = curveTx l' n
  | 0, _ => rfl
  | 1, h => by show knotTx (l 0) = knotTx (l' 0); rw [h 0 (by omega)]
  | n + 2, h => by
    show curveTx l (n + 1) ++ _ ++ knotTx (l (n + 1)) = curveTx l' (n + 1) ++ _ ++ knotTx (l' (n + 1))
    rw [curveTx_congr (n + 1) (fun j hj => h j (by omega)), h (n + 1) (by omega)]
theorem cut_any (p : List UInt8) (hp : p.length ≤ 1048576) (w : World) (hT : LibV w) :
    Calls Tryz.prog 40 #[.string ⟨p.toArray⟩, .string ⟨#[58]⟩] w fun e w' => e = .returned (.tuple #[.string ⟨(Lib.cut p [58]).1.toArray⟩, .string ⟨(Lib.cut p [58]).2.1.toArray⟩, .bool (Lib.cut p [58]).2.2]) ∧ Below w.heap.size w w' := by
  obtain ⟨_, ⟨m, hm⟩, _⟩ := hT
  have hsz : (⟨p.toArray⟩ : ByteArray).size = p.length := by show p.toArray.size = _; rw [List.size_toArray]
  have h := Tryz.strings_Cut ⟨p.toArray⟩ ⟨#[58]⟩ m w (by omega) hm
  have eL : (⟨p.toArray⟩ : ByteArray).data.toList = p := by simp
  rw [eL, show (⟨#[58]⟩ : ByteArray).data.toList = [58] from rfl] at h
  refine h.mono ?_
  rintro e w' ⟨rfl, n, rfl⟩
  exact ⟨rfl, ⟨rfl, rfl, rfl, Nat.le_refl _, fun _ _ => rfl⟩⟩
theorem cut_len (p : List UInt8) : (Lib.cut p [58]).1.length ≤ p.length ∧ (Lib.cut p [58]).2.1.length ≤ p.length := by
  unfold Lib.cut
  split
  · simp only [List.length_take, List.length_drop]; omega
  · simp
theorem sl_two {w : World} {B : Nat} {t : TypeId} {p0 p1 : List UInt8} (h : Blk w B t #[.string ⟨p0.toArray⟩, .string ⟨p1.toArray⟩]) : Sl w (some ⟨B, 0, none⟩) (2 * 1) (wdC [p0, p1]) :=
  h.sl (fun j hj => by
    match j, hj with
    | 0, _ => rfl
    | 1, _ => rfl)
set_option maxRecDepth 100000 in
set_option maxHeartbeats 4000000 in
theorem implReadCurve_any (s : ByteArray) (w : World) (hs : s.size ≤ 1048576) (hT : LibV w) :
    Calls Tryz.prog 10 #[.string s] w fun e w' => RetRC s w w' e ∧ Below w.heap.size w w' := by
  obtain ⟨i0, hi, hz0, hz1, hz2⟩ := info_parts Tryz.infoKn
  have TT := Lib.hid hT
  clear hT
  go_enter Tryz.func10, Tryz.ntmps10
  go_wp2_with fail
  refine (splitWords_any s hs _ TT.out).mono ?_
  rintro e w1 ⟨⟨v1, rfl, row1⟩, hb1⟩
  have fl := wordsOf_le s
  have FL := Lib.hid (fun k => wordsOf_len s k)
  obtain ⟨ws, hws⟩ : ∃ ws, wordsOf s.data.toList = ws := ⟨_, rfl⟩
  rw [hws] at row1 fl FL
  obtain ⟨A1, c1, rfl, _, own1, _⟩ := row1.own
  have S1 := Lib.hid own1.sl
  have WS := Lib.hid hws
  have sz1 := hb1.size
  have fl' : (ws.length : Int) ≤ 1048576 := by omega
  clear hws row1 own1
  go_wp2_with fail
  go_loopw [4, 6, 7, 8, 9, 10, 11, 15] (fun v _ _ _ _ _ _ i wr => ∃ k : Nat, k ≤ ws.length ∧ i = .int .i64 (k : Int) ∧ Row wr w1.heap.size 76 2 v k (KnotC (fun j => cutK (ws.getD j []))) ∧ (∀ j, j < k → CutOk (ws.getD j [])) ∧ Below w1.heap.size w1 wr) (fun _ _ _ _ _ _ _ i _ => ws.length - (RowKit.intOf i).toNat)
  case atStart => exact ⟨0, Nat.zero_le _, rfl, Row.nil _ _ _ _ _, fun j hj => by omega, Below.refl _ _⟩
  case round =>
    obtain ⟨k, hk, rfl, row, hall, hbl⟩ := hrel
    have HALL := Lib.hid hall
    clear hall
    have bsz := hbl.size
    have hbw := hb1.trans (hbl.mono hb1.size)
    by_cases hlt : k < ws.length
    · have hlt' : (k : Int) < (ws.length : Int) := by omega
      obtain ⟨b, off, rfl, hb, hc⟩ := (S1.out.below hbl) (by omega)
      have d0 : wr.cell? ⟨b, off + k, none⟩ = some (.string ⟨(ws.getD k []).toArray⟩) := hc k (by omega)
      obtain ⟨p, hp⟩ : ∃ p, ws.getD k [] = p := ⟨_, rfl⟩
      have pl : p.length ≤ 1048576 := by have := FL.out k; rw [hp] at this; omega
      have HP := Lib.hid hp
      rw [hp] at d0
      clear hc hp
      have CUT := Lib.hid (cut_any p pl wr (TT.out.below hbw))
      obtain ⟨cl0, cl1⟩ := cut_len p
      obtain ⟨p0, hp0⟩ : ∃ x, (Lib.cut p [58]).1 = x := ⟨_, rfl⟩
      obtain ⟨p1, hp1⟩ : ∃ x, (Lib.cut p [58]).2.1 = x := ⟨_, rfl⟩
      obtain ⟨p2, hp2⟩ : ∃ x, (Lib.cut p [58]).2.2 = x := ⟨_, rfl⟩
      rw [hp0, hp1, hp2] at CUT
      rw [hp0] at cl0
      rw [hp1] at cl1
      have HC := Lib.hid (show (CutOk (ws.getD k []) ↔ numOk p0 = true ∧ numOk p1 = true) ∧ cutK (ws.getD k []) = ⟨numV p0, numV p1⟩ by
        rw [HP.out]; unfold CutOk cutK; rw [hp0, hp1]; exact ⟨Iff.rfl, rfl⟩)
      clear hp0 hp1 hp2
      go_wp2_with fail
      refine CUT.out.mono ?_
      rintro e w2 ⟨rfl, hb2⟩
      clear CUT d0
      have hbl2 := hbl.trans (hb2.mono hbl.size)
      go_wp2_with fail
      generalize hV : World.alloc w2 _ = w3
      have hb3 : Below w2.heap.size w2 w3 := by rw [← hV]; exact (Below.refl _ _).alloc (Nat.le_refl _) _
      have k3 : Blk w3 w2.heap.size 9 #[.string ⟨p0.toArray⟩, .string ⟨p1.toArray⟩] := by rw [← hV]; exact Blk.new w2 _ _
      clear hV
      have hbl3 := hbl2.trans (hb3.mono hbl2.size)
      have hbw3 := hb1.trans (hbl3.mono hb1.size)
      refine (readNumbers_any _ 2 2 [p0, p1] _ (by omega) (fun j hj => by
        match j, hj with
        | 0, _ => show p0.length ≤ _; omega
        | 1, _ => show p1.length ≤ _; omega) (sl_two k3) (TT.out.below hbw3)).mono ?_
      rintro e w4 ⟨hR, hb4⟩
      have hbl4 := hbl3.trans (hb4.mono hbl3.size)
      have hbw4 := hb1.trans (hbl4.mono hb1.size)
      rcases hR with ⟨B, rfl, hB, kB, hok⟩ | ⟨rfl, hno⟩
      · have row4 := ((row.below hb2).below hb3).below hb4
        have HOK := Lib.hid (show ∀ j, j < k + 1 → CutOk (ws.getD j []) from fun j hj => by
          by_cases e : j = k
          · subst e; exact HC.out.1.2 ⟨hok 0 (by omega), hok 1 (by omega)⟩
          · exact HALL.out j (by omega))
        have x0 := kB.cell 0
        have x1 := kB.cell 1
        rw [arr_get _ _ _ (by omega)] at x0 x1
        have xl := kB.lt
        have HK := Lib.hid HC.out.2
        clear hok k3 row HC
        simp [numC] at x0 x1
        go_wp2_with fail
        refine wp_region_ext_tail 1 8 (by kernel_rfl) (by kernel_rfl) (fun d _ _ _ _ h => by cases d <;> exact h) ?_
        simp only [List.take_succ_cons, List.take_zero, List.drop_succ_cons, List.drop_zero]
        repeat (go_big_quiet_step (fail))
        refine wpQuiet_nil ?_
        intro e5
        have hb5 := e5.below
        have row5 := row4.below hb5
        have hbl5 := hbl4.trans (hb5.mono hbl4.size)
        generalize e5.val = w5 at *
        have bsz5 := hbl5.size
        clear row4 x0 x1
        have row7 := row5.congr (f' := KnotC (fun j => cutK (ws.getD j []))) (fun j hj => rfl)
        go_wp2_with (at_builtin; refine wpList_append_row rfl _ _ 24 rfl w1.heap.size 76 i0 _ 2 16 Tryz.underlying24 hi hz0 hz1 hz2 rfl (by decide) _ k (KnotC (fun j => cutK (ws.getD j []))) rfl (row7.alloc _) w5.heap.size 1 rfl ?c1 (kn_one _ k) ?c3 ?c4 ?c5 ?_)
        case c1 =>
          intro j hj
          match j, hj with
          | 0, _ => rw [Nat.add_zero, KnotC0, HK.out]; simp
          | 1, _ => rw [KnotC1, HK.out]; simp
        case c3 => omega
        case c4 => omega
        case c5 => first | omega | (simp; omega)
        intro v' w7 row8 hg7
        have gw7 := Row.after (hbl5.alloc bsz5 _) (Nat.le_refl _) (by simp; omega) (row7.alloc _) hg7 row8
        clear hg7 row7 row5
        go_wp2_with fail
        go_roundw
        case rel => exact ⟨k + 1, by omega, by go_num, row8, HOK.out, gw7⟩
        case measure => simp [RowKit.intOf]; omega
      · have E := Lib.hid (show ∀ n l, ¬ CurIs s n l from fun n l h => by
          obtain ⟨e1, e2⟩ := cur_cut h
          rw [WS.out] at e1 e2
          obtain ⟨h0, h1⟩ := HC.out.1.1 (e2 k (by omega)).1
          obtain ⟨j, hj, hn⟩ := hno
          match j, hj with
          | 0, _ => rw [show ([p0, p1] : List (List UInt8)).getD 0 [] = p0 from rfl, h0] at hn; cases hn
          | 1, _ => rw [show ([p0, p1] : List (List UInt8)).getD 1 [] = p1 from rfl, h1] at hn; cases hn)
        clear hno k3
        go_wp2_with fail
        go_ret2
        exact ⟨retRC_no E.out, hbw4⟩
    · obtain rfl : k = ws.length := by omega
      obtain ⟨l, hl⟩ : ∃ l : Nat → KnotD, (fun j => cutK (ws.getD j [])) = l := ⟨_, rfl⟩
      rw [hl] at row
      have LJ := Lib.hid (show ∀ j, cutK (ws.getD j []) = l j from fun j => by rw [← hl])
      have KO := Lib.hid (show ∀ j, j < ws.length → KnotOk (l j) from fun j hj => by
        have hok := HALL.out j hj
        rw [← hl]
        have a := (num_of hok.1).1
        have b := (num_of hok.2).1
        exact ⟨by show _ ≤ numV _ ∧ numV _ ≤ _; omega, by show _ ≤ numV _ ∧ numV _ ≤ _; omega⟩)
      clear hl
      obtain ⟨A5, c5, rfl, _, own5, hz5⟩ := row.own
      generalize hN : ws.length = N at *
      go_wp2_with fail
      refine (validCurve_any A5 N c5 l _ (by omega) own5.sl KO.out).mono ?_
      rintro e w6 ⟨rfl, hb6⟩
      have hbw6 := hbw.trans (hb6.mono hbw.size)
      have CU := Lib.hid (show ∀ n l', CurIs s n l' → n = N ∧ ∀ j, j < n → l' j = l j from fun n l' h => by
        obtain ⟨e1, e2⟩ := cur_cut h
        rw [WS.out] at e1 e2
        exact ⟨e1.symm.trans hN, fun j hj => by rw [← (e2 j hj).2, LJ.out j]⟩)
      cases q : curveOk N l
      · have E := Lib.hid (show ∀ n l, ¬ CurIs s n l from fun n l' h => by
          obtain ⟨e1, e2⟩ := CU.out n l' h
          subst e1
          rw [curveOk_yes (curveOk_congr e2 h.1)] at q
          cases q)
        go_wp2_with fail
        go_ret2
        exact ⟨retRC_no E.out, hbw6⟩
      · have OK := Lib.hid (curveOk_of q)
        have own6 := own5.below hb6
        have CT := Lib.hid (implCurveText_any A5 N c5 l w6 (by omega) own6.sl KO.out (TT.out.below hbw6).1)
        rw [show mCT N l = curveTx l N by unfold mCT; rw [q]; rfl] at CT
        clear q
        go_wp2_with fail
        refine CT.out.mono ?_
        rintro e w7 ⟨rfl, hb7⟩
        clear CT
        have hbw7 := hbw6.trans (hb7.mono hbw6.size)
        have own7 := (own6.below hb7).mono (base' := w.heap.size) sz1
        by_cases q : curveTx l N = s
        · have Q := Lib.hid q
          rw [q]
          clear q
          go_wp2_with fail
          go_ret2
          exact ⟨retRC_yes ⟨OK.out, Q.out⟩ own7 hz5, hbw7⟩
        · have E := Lib.hid (show ∀ n l, ¬ CurIs s n l from fun n l' h => by
            obtain ⟨e1, e2⟩ := CU.out n l' h
            subst e1
            exact q ((curveTx_congr n e2).symm.trans h.2))
          have q1 : ((curveTx l N).toList == s.toList) = false := text_ne q
          go_wp2_with fail
          go_ret2
          exact ⟨retRC_no E.out, hbw7⟩
end Go.Proofs.YthjllledhcfnhaaGreatDoor.Tx
