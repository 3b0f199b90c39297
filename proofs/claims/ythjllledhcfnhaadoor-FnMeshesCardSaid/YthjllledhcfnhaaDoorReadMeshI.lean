/- ReadMesh by the program. Conditions: the size of a text; the library's variables lie. -/
import Derived.Test.YthjllledhcfnhaaDoorReadMesh
import Derived.Test.YthjllledhcfnhaaDoorMake
namespace Go.Ks
open Go.RowKit Go.Lib
/-- a word cut at its comma -/
noncomputable def cutS (x : List UInt8) : SpotD := ⟨numV (Lib.cut x [44]).1, numV (Lib.cut x [44]).2.1⟩
def CutSOk (x : List UInt8) : Prop := numOk (Lib.cut x [44]).1 = true ∧ numOk (Lib.cut x [44]).2.1 = true
theorem cut_spot {x : SpotD} (h : SpN x) : CutSOk (spotL x) ∧ cutS (spotL x) = x := by
  have n0 := itoa_num (n := x.f0) ⟨h.1.1, h.1.2⟩
  have n1 := itoa_num (n := x.f1) ⟨h.2.1, h.2.2⟩
  unfold CutSOk cutS spotL
  rw [cut_app (itoa_44 _)]
  exact ⟨⟨n0.1, n1.1⟩, by simp only; rw [n0.2, n1.2]⟩
theorem cutS_spn {x : List UInt8} (h : CutSOk x) : SpN (cutS x) := ⟨(num_of h.1).1, (num_of h.2).1⟩
theorem cutS_text {x : List UInt8} {y : SpotD} (h : x = spotL y) (hy : SpN y) : CutSOk x ∧ cutS x = y := by rw [h]; exact cut_spot hy
def spG (u : Value) : Prop := ∃ x y : Int, u = .agg #[.int .i64 x, .int .i64 y]
def agC : Value → Array Value | .agg c => c | _ => #[]
theorem meshTx_congr {C R : Int} {l l' : Nat → SpotD} : ∀ n, (∀ j, j < n → l j = l' j) → meshTx C R l n = meshTx C R l' n
  | 0, _ => rfl
  | n + 1, h => by
    show meshTx C R l n ++ _ = meshTx C R l' n ++ _
    rw [meshTx_congr n (fun j hj => h j (by omega)), h n (by omega)]
end Go.Ks
namespace Go.Proofs.YthjllledhcfnhaaDoor
open Go.RowKit Go.Lib Go.Ks
theorem makeSpt : Go.Ks.Make.MakeRun Tryd.prog 67 81 spG agC := by
  obtain ⟨i0, hi, hz0, hz1, hz2⟩ := info_parts Tryd.infoSpt
  rintro w u ⟨x, y, rfl⟩
  simp [go_sem, Instr.buildSlice, Go.Ks.Make.sl1, agC]
set_option maxRecDepth 100000 in
set_option maxHeartbeats 8000000 in
theorem implReadMesh_any (s : ByteArray) (w : World) (hs : s.size ≤ 1048576) (hT : LibV w) :
    Calls Tryd.prog 42 #[.string s] w fun e w' => RetRM s w w' e ∧ Below w.heap.size w w' := by
  obtain ⟨i0, hi, hz0, hz1, hz2⟩ := info_parts Tryd.infoSpt
  have TT := Lib.hid hT
  clear hT
  have SPL := Lib.hid (fun w hT => splitWords_any s hs w hT)
  have PL := Lib.hid (fun k => Nat.le_trans (wordsOf_len s k) hs)
  have fl := wordsOf_le s
  obtain ⟨ws, hws⟩ : ∃ ws, wordsOf s.data.toList = ws := ⟨_, rfl⟩
  rw [hws] at SPL PL fl
  have UW := Lib.hid (show ∀ C R n l, MshIs s C R n l → ws.length = n + 1 ∧ ws.getD 0 [] = headL C R ∧ ∀ j, j < n → ws.getD (j + 1) [] = spotL (l j) from fun C R n l h => by
    obtain ⟨a, b, c, d⟩ := msh_look h.2
    rw [← hws, words_full d]
    exact ⟨a, b, c⟩)
  clear hws
  have fl' : (ws.length : Int) ≤ 1048576 := by omega
  go_enter Tryd.func42, Tryd.ntmps42
  go_wp2_with fail
  generalize hV : World.alloc _ _ = w1
  have hb1 : Below w.heap.size w w1 := by rw [← hV]; exact (Below.refl _ _).alloc (Nat.le_refl _) _
  have r1 : Blk w1 w.heap.size 69 #[.int .i64 0, .int .i64 0, .slice none 0 0] := by rw [← hV]; exact Blk.new w _ _
  clear hV
  refine (SPL.out w1 (TT.out.below hb1)).mono ?_
  rintro e w2 ⟨⟨v2, rfl, row2⟩, hb2⟩
  clear SPL
  obtain ⟨A2, c2, rfl, hc2, own2, _⟩ := row2.own
  have HB2 := hb1.trans (hb2.mono hb1.size)
  have r2 := r1.below hb2 r1.lt
  clear r1 row2
  by_cases q0 : ws.length = 0
  · have E := Lib.hid (show MshNo s from fun C R n l h => by have := (UW.out C R n l h).1; omega)
    have nd : ((ws.length : Int) == 0) = true := beq_iff_eq.2 (by omega)
    clear q0 own2
    have z0 := r2.cell 0
    have z1 := r2.cell 1
    have z2 := r2.cell 2
    simp at z0 z1 z2
    have zl := r2.lt
    have zg0 := r2.frozen 0
    have zg1 := r2.frozen 1
    have zg2 := r2.frozen 2
    go_wp2_with fail
    refine bodyPost_ret (v := .tuple #[.agg #[.int .i64 0, .int .i64 0, .slice none 0 0], .bool false]) (by simp [results, Tryd.results42, go_sem, z0, z1, z2]) rfl ⟨retRM_no E.out, ?_⟩
    exact set3 HB2 _ _ _
  obtain ⟨M, hM⟩ : ∃ M, ws.length = M + 1 := ⟨ws.length - 1, by omega⟩
  have HM := Lib.hid hM
  rw [hM] at own2 hc2 fl fl' ⊢
  clear hM q0
  obtain ⟨B2, rfl, hB2, cw2⟩ := own_word own2
  have CW := Lib.hid cw2
  have x0 := cw2 w2 0 (Below.refl _ _) (by omega)
  obtain ⟨h0, hh0⟩ : ∃ h, ws.getD 0 [] = h := ⟨_, rfl⟩
  rw [hh0] at x0
  have hl0 : h0.length ≤ 1048576 := by rw [← hh0]; exact PL.out 0
  have CUT := Lib.hid (cutc_any 120 h0 hl0 w2 (TT.out.below HB2))
  obtain ⟨cl0, cl1⟩ := cut_len 120 h0
  obtain ⟨p0, hp0⟩ : ∃ x, (Lib.cut h0 [120]).1 = x := ⟨_, rfl⟩
  obtain ⟨p1, hp1⟩ : ∃ x, (Lib.cut h0 [120]).2.1 = x := ⟨_, rfl⟩
  obtain ⟨p2, hp2⟩ : ∃ x, (Lib.cut h0 [120]).2.2 = x := ⟨_, rfl⟩
  rw [hp0, hp1, hp2] at CUT
  rw [hp0] at cl0
  rw [hp1] at cl1
  have UN := Lib.hid (show ∀ C R n l, MshIs s C R n l → (numOk p0 = true ∧ numOk p1 = true) ∧ (C = numV p0 ∧ R = numV p1) ∧ M = n ∧ ∀ j, j < n → ws.getD (j + 1) [] = spotL (l j) from fun C R n l h => by
    obtain ⟨a, b, c⟩ := UW.out C R n l h
    rw [hh0] at b
    have hc := cut_app (l := Lib.itoa R) (itoa_120 C)
    unfold headL at b
    rw [← b] at hc
    rw [hc] at hp0 hp1
    obtain ⟨⟨m1, m2⟩, ⟨m3, m4⟩, _⟩ := h.1
    have e0 := itoa_num (n := C) (by omega)
    have e1 := itoa_num (n := R) (by omega)
    rw [← hp0, ← hp1]
    refine ⟨⟨e0.1, e1.1⟩, ⟨e0.2.symm, e1.2.symm⟩, ?_, c⟩
    have := HM.out
    omega)
  have hM0 : M ≤ 1048575 := by omega
  have HC2 := Lib.hid hc2
  have nd : (((M : Int) + 1) == 0) = false := beq_eq_false_iff_ne.2 (by omega)
  clear hh0 hp0 hp1 hp2 cw2 own2 UW hc2 fl fl'
  go_wp2_with fail
  clear nd
  refine CUT.out.mono ?_
  rintro e w3 ⟨rfl, hb3⟩
  clear CUT x0
  have HB3 := HB2.trans (hb3.mono HB2.size)
  have r3 := r2.below hb3 r2.lt
  clear r2
  go_wp2_with fail
  generalize hV : World.alloc w3 _ = w4
  have hb4 : Below w3.heap.size w3 w4 := by rw [← hV]; exact (Below.refl _ _).alloc (Nat.le_refl _) _
  have k4 : Blk w4 w3.heap.size 9 #[.string ⟨p0.toArray⟩, .string ⟨p1.toArray⟩] := by rw [← hV]; exact Blk.new w3 _ _
  clear hV
  have HB4 := HB3.trans (hb4.mono HB3.size)
  have r4 := r3.below hb4 r3.lt
  refine (readNumbers_any _ 2 2 [p0, p1] _ (by omega) (fun j hj => by
    match j, hj with
    | 0, _ => show p0.length ≤ _; omega
    | 1, _ => show p1.length ≤ _; omega) (sl_two k4) (TT.out.below HB4)).mono ?_
  rintro e w5 ⟨hR, hb5⟩
  have HB5 := HB4.trans (hb5.mono HB4.size)
  have r5 := r4.below hb5 r4.lt
  have hb25 : Below w2.heap.size w2 w5 := hb3.trans ((hb4.trans (hb5.mono hb4.size)).mono hb3.size)
  clear r3 r4 k4 hb3 hb4 hb5
  rcases hR with ⟨BN, rfl, hBN, kN, hok⟩ | ⟨rfl, hno⟩
  case inr =>
    have E := Lib.hid (show MshNo s from fun C R n l h => by
      obtain ⟨⟨h1, h2⟩, _⟩ := UN.out C R n l h
      obtain ⟨j, hj, hn⟩ := hno
      match j, hj with
      | 0, _ => rw [show ([p0, p1] : List (List UInt8)).getD 0 [] = p0 from rfl, h1] at hn; cases hn
      | 1, _ => rw [show ([p0, p1] : List (List UInt8)).getD 1 [] = p1 from rfl, h2] at hn; cases hn)
    clear hno
    have z0 := r5.cell 0
    have z1 := r5.cell 1
    have z2 := r5.cell 2
    simp at z0 z1 z2
    have zl := r5.lt
    have zg0 := r5.frozen 0
    have zg1 := r5.frozen 1
    have zg2 := r5.frozen 2
    go_wp2_with fail
    refine bodyPost_ret (v := .tuple #[.agg #[.int .i64 0, .int .i64 0, .slice none 0 0], .bool false]) (by simp [results, Tryd.results42, go_sem, z0, z1, z2]) rfl ⟨retRM_no E.out, ?_⟩
    exact set3 HB5 _ _ _
  have n0 := kN.cell 0
  have n1 := kN.cell 1
  rw [arr_get _ _ _ (by omega)] at n0 n1
  simp [numC] at n0 n1
  have nl := kN.lt
  clear hok kN hBN
  obtain ⟨a, ha⟩ : ∃ a, numV p0 = a := ⟨_, rfl⟩
  obtain ⟨b, hb⟩ : ∃ b, numV p1 = b := ⟨_, rfl⟩
  rw [ha] at n0 UN
  rw [hb] at n1 UN
  clear ha hb
  go_upto_region 8 with fail
  go_cut [10] (fun q wr => ∃ Bm, q = .pointer (some ⟨Bm, 0, none⟩) ∧ Blk wr Bm 69 #[.int .i64 a, .int .i64 b, .slice none 0 0] ∧ w5.heap.size ≤ Bm ∧ Below w5.heap.size w5 wr)
  case first =>
    go_region_with (fail)
    all_goals (try go_wp2_with fail)
    all_goals go_meet
    all_goals exact ⟨_, rfl, (Blk.new w5 _ _), Nat.le_refl _, by repeat (first | with_reducible exact Below.refl _ _ | with_reducible assumption | with_reducible refine Below.setCell ?_ (by first | omega | (simp <;> omega)) _ | with_reducible refine Below.alloc ?_ (by first | omega | (simp <;> omega)) _ | with_reducible refine Below.drew ?_)⟩
  obtain ⟨Bm, rfl, k6, hBm, hb6⟩ := hcut
  obtain ⟨w6, rfl⟩ : ∃ q : World, q = wc := ⟨_, rfl⟩
  have s56 := hb6.size
  clear n0 n1 nl
  go_upto_region 9 with fail
  have hcc : (M : Int) + 1 ≤ (c2 : Int) := by have := HC2.out; omega
  go_cut [50, 51, 52] (fun q m i wr => ∃ (Aw : Option Addr) (cw : Nat), q = .slice Aw M cw ∧ m = .int .i64 (M : Int) ∧ i = .int .i64 0 ∧ (0 < M → Aw = some ⟨B2, 1, none⟩) ∧ w6 = wr)
  case first =>
    have c1 : (1 : Int) ≤ (c2 : Int) := by omega
    have c1' : (1 : Int) ≤ (M : Int) + 1 := by omega
    have c1n : 1 ≤ M + 1 := by omega
    by_cases hc1 : c2 = 1
    · have hM0 : M = 0 := by omega
      subst hM0
      go_wp2_with fail
      go_meet
      exact ⟨_, _, rfl, rfl, rfl, fun h => absurd h (by omega), rfl⟩
    · go_wp2_with fail
      go_meet
      exact ⟨_, _, rfl, rfl, rfl, (fun _ => rfl), rfl⟩
  obtain ⟨Aw, cw, rfl, rfl, rfl, hAw, rfl⟩ := hcut
  have fM : (M : Int) ≤ 1048576 := by omega
  have fM' : M ≤ 1048576 := by omega
  clear hcc
  go_wp2_with fail
  go_loopw [12, 13, 14, 15, 16, 17, 52] (fun _ _ _ _ _ _ i wr => ∃ (k : Nat) (v : Value), k ≤ M ∧ i = .int .i64 (k : Int) ∧ Blk wr Bm 69 #[.int .i64 a, .int .i64 b, v] ∧ Row wr w5.heap.size 81 2 v k (SpotC (fun j => cutS (ws.getD (j + 1) []))) ∧ (∀ j, j < k → CutSOk (ws.getD (j + 1) [])) ∧ Below w5.heap.size w5 wr) (fun _ _ _ _ _ _ i _ => M - (RowKit.intOf i).toNat)
  case atStart => exact ⟨0, _, Nat.zero_le _, rfl, k6, Row.nil _ _ _ _ _, fun j hj => by omega, hb6⟩
  case round =>
    obtain ⟨k, v, hk, rfl, kb, row, hall, hbl⟩ := hrel
    have HALL := Lib.hid hall
    clear hall
    have bsz := hbl.size
    have HBr := HB5.trans (hbl.mono HB5.size)
    by_cases hlt : k < M
    · have hlt' : (k : Int) < (M : Int) := by omega
      obtain rfl := hAw (by omega)
      have hb2r : Below w2.heap.size w2 wr := hb25.trans (hbl.mono hb25.size)
      have d0 := CW.out wr (k + 1) hb2r (by omega)
      have d0' : wr.cell? ⟨B2, 1 + k, none⟩ = some (.string ⟨(ws.getD (k + 1) []).toArray⟩) := by rw [Nat.add_comm]; exact d0
      have bl2 : B2 < wr.heap.size := by have := hb2r.size; omega
      obtain ⟨x, hx⟩ : ∃ x, ws.getD (k + 1) [] = x := ⟨_, rfl⟩
      have pl : x.length ≤ 1048576 := by rw [← hx]; exact PL.out (k + 1)
      rw [hx] at d0'
      have HX := Lib.hid hx
      clear hx d0
      have CUT := Lib.hid (cutc_any 44 x pl wr (TT.out.below HBr))
      obtain ⟨cl0, cl1⟩ := cut_len 44 x
      obtain ⟨q0, hq0⟩ : ∃ y, (Lib.cut x [44]).1 = y := ⟨_, rfl⟩
      obtain ⟨q1, hq1⟩ : ∃ y, (Lib.cut x [44]).2.1 = y := ⟨_, rfl⟩
      obtain ⟨q2, hq2⟩ : ∃ y, (Lib.cut x [44]).2.2 = y := ⟨_, rfl⟩
      rw [hq0, hq1, hq2] at CUT
      rw [hq0] at cl0
      rw [hq1] at cl1
      have HC := Lib.hid (show (CutSOk (ws.getD (k + 1) []) ↔ numOk q0 = true ∧ numOk q1 = true) ∧ cutS (ws.getD (k + 1) []) = ⟨numV q0, numV q1⟩ by
        rw [HX.out]; unfold CutSOk cutS; rw [hq0, hq1]; exact ⟨Iff.rfl, rfl⟩)
      clear hq0 hq1 hq2
      go_wp2_with fail
      refine CUT.out.mono ?_
      rintro e w7 ⟨rfl, hb7⟩
      clear CUT d0'
      have hbl7 := hbl.trans (hb7.mono hbl.size)
      go_wp2_with fail
      generalize hV : World.alloc w7 _ = w8
      have hb8 : Below w7.heap.size w7 w8 := by rw [← hV]; exact (Below.refl _ _).alloc (Nat.le_refl _) _
      have k8 : Blk w8 w7.heap.size 9 #[.string ⟨q0.toArray⟩, .string ⟨q1.toArray⟩] := by rw [← hV]; exact Blk.new w7 _ _
      clear hV
      have hbl8 := hbl7.trans (hb8.mono hbl7.size)
      have HB8 := HB5.trans (hbl8.mono HB5.size)
      refine (readNumbers_any _ 2 2 [q0, q1] _ (by omega) (fun j hj => by
        match j, hj with
        | 0, _ => show q0.length ≤ _; omega
        | 1, _ => show q1.length ≤ _; omega) (sl_two k8) (TT.out.below HB8)).mono ?_
      rintro e w9 ⟨hR, hb9⟩
      have hbl9 := hbl8.trans (hb9.mono hbl8.size)
      have HB9 := HB5.trans (hbl9.mono HB5.size)
      have s59 := hbl9.size
      rcases hR with ⟨BN, rfl, hBN, kN, hok⟩ | ⟨rfl, hno⟩
      · have row9 := ((row.below hb7).below hb8).below hb9
        have kb9 := ((kb.below hb7 kb.lt).below hb8 (kb.below hb7 kb.lt).lt).below hb9 ((kb.below hb7 kb.lt).below hb8 (kb.below hb7 kb.lt).lt).lt
        have HOK := Lib.hid (show ∀ j, j < k + 1 → CutSOk (ws.getD (j + 1) []) from fun j hj => by
          by_cases e : j = k
          · subst e; exact HC.out.1.2 ⟨hok 0 (by omega), hok 1 (by omega)⟩
          · exact HALL.out j (by omega))
        have n0 := kN.cell 0
        have n1 := kN.cell 1
        rw [arr_get _ _ _ (by omega)] at n0 n1
        simp [numC] at n0 n1
        have nl := kN.lt
        have HK := Lib.hid HC.out.2
        clear hok kN hBN k8 row HC kb
        generalize numV q0 = u0 at *
        generalize numV q1 = u1 at *
        have o2 := kb9.cell 2
        simp at o2
        have lo := kb9.lt
        go_upto_region 16 with fail
        refine Go.Ks.Make.wp_region_make 9 96 67 81 81 80 spG agC (by kernel_rfl) (by kernel_rfl) (by rfl) makeSpt ?_
        simp only [List.take_succ_cons, List.take_zero, List.drop_succ_cons, List.drop_zero]
        repeat (go_big_quiet_step (fail))
        refine wpQuiet_nil ?_
        refine ⟨⟨_, _, rfl⟩, ?_⟩
        intro BL wA hbA hBL hblk
        have hblk' : Blk wA BL 81 #[.int .i64 u0, .int .i64 u1] := hblk
        clear hblk n0 n1 nl o2 lo
        have rowA := row9.below hbA
        have kbA := kb9.below hbA kb9.lt
        have hblA := hbl9.trans (hbA.mono s59)
        have sA := hblA.size
        have lA := hblk'.lt
        simp only [Act.put, List.setIfInBounds_toArray, List.set_cons_succ, List.set_cons_zero]
        refine wpList_append_row rfl _ _ 67 rfl w5.heap.size 81 i0 _ 2 16 Tryd.underlying67 hi hz0 hz1 hz2 rfl (by decide) _ k (SpotC (fun j => cutS (ws.getD (j + 1) []))) rfl rowA BL 1 rfl ?c1 (spc_one _ k) (by omega) (by omega) sA ?_
        case c1 =>
          intro j hj
          rw [hblk'.cell]
          match j, hj with
          | 0, _ => rw [Nat.add_zero, SpotC0, HK.out]; rfl
          | 1, _ => rw [SpotC1, HK.out]; rfl
        intro vB wB rowB hgB
        obtain ⟨AB, cB, rfl, _, _, _⟩ := rowB.own
        have hblB := Row.after hblA (Nat.le_refl _) sA rowA hgB rowB
        have kbB := kbA.row rowA hgB (by decide)
        clear hgB
        have fB := kbB.cell 2
        simp at fB
        have gB := kbB.frozen 2
        have lB := kbB.lt
        have rowC := rowB.set kbB (by decide) 2 (.slice AB (k + 1) cB)
        have kbC := kbB.set_ 2 (.slice AB (k + 1) cB)
        have hblC := hblB.setCell (p := ⟨Bm, 2, none⟩) hBm (.slice AB (k + 1) cB)
        try simp only [Act.put, List.setIfInBounds_toArray, List.set_cons_succ, List.set_cons_zero]
        go_wp2_with fail
        go_roundw
        case rel => exact ⟨k + 1, _, by omega, by go_num, kbC, rowC, HOK.out, hblC⟩
        case measure => simp [RowKit.intOf]; omega
      · have E := Lib.hid (show MshNo s from fun C R n l h => by
          obtain ⟨_, _, hn, hw⟩ := UN.out C R n l h
          have hkn := hw k (by omega)
          obtain ⟨h1, h2⟩ := HC.out.1.1 (cutS_text hkn (mesh_spn h.1 (by omega))).1
          obtain ⟨j, hj, hj2⟩ := hno
          match j, hj with
          | 0, _ => rw [show ([q0, q1] : List (List UInt8)).getD 0 [] = q0 from rfl, h1] at hj2; cases hj2
          | 1, _ => rw [show ([q0, q1] : List (List UInt8)).getD 1 [] = q1 from rfl, h2] at hj2; cases hj2)
        have rr := r5.below hbl9 r5.lt
        clear hno k8 row kb
        have z0 := rr.cell 0
        have z1 := rr.cell 1
        have z2 := rr.cell 2
        simp at z0 z1 z2
        have zl := rr.lt
        have zg0 := rr.frozen 0
        have zg1 := rr.frozen 1
        have zg2 := rr.frozen 2
        go_wp2_with fail
        refine bodyPost_ret (v := .tuple #[.agg #[.int .i64 0, .int .i64 0, .slice none 0 0], .bool false]) (by simp [results, Tryd.results42, go_sem, z0, z1, z2]) rfl ⟨retRM_no E.out, ?_⟩
        exact set3 HB9 _ _ _
    · obtain rfl : k = M := by omega
      obtain ⟨L, hL⟩ : ∃ L : Nat → SpotD, (fun j => cutS (ws.getD (j + 1) [])) = L := ⟨_, rfl⟩
      rw [hL] at row
      have SPN := Lib.hid (show ∀ j, j < k → SpN (L j) from fun j hj => by rw [← hL]; exact cutS_spn (HALL.out j hj))
      have UL := Lib.hid (show ∀ C R n l, MshIs s C R n l → C = a ∧ R = b ∧ k = n ∧ ∀ j, j < n → l j = L j from fun C R n l h => by
        obtain ⟨_, ⟨e1, e2⟩, hn, hw⟩ := UN.out C R n l h
        refine ⟨e1, e2, hn, fun j hj => ?_⟩
        rw [← hL]
        exact (cutS_text (hw j hj) (mesh_spn h.1 hj)).2.symm)
      clear hL
      obtain ⟨Av, cv, rfl, _, ownv, hzv⟩ := row.own
      have rr := r5.below hbl r5.lt
      have SV := Lib.hid ownv.sl
      have c0 := kb.cell 0
      have c1 := kb.cell 1
      have c2' := kb.cell 2
      simp at c0 c1 c2'
      have cl := kb.lt
      clear row
      go_wp2_with fail
      refine (validMesh_any a b Av k cv L _ fM' SV.out).mono ?_
      rintro e w7 ⟨rfl, hb7⟩
      have HB7 := HBr.trans (hb7.mono HBr.size)
      have r7 := rr.below hb7 rr.lt
      have k7 := kb.below hb7 kb.lt
      have own7 := ownv.below hb7
      clear c0 c1 c2' cl SV
      have c0 := k7.cell 0
      have c1 := k7.cell 1
      have c2' := k7.cell 2
      simp at c0 c1 c2'
      have cl := k7.lt
      rcases b_cases (meshOk a b k L) with q | q
      · have E := Lib.hid (show MshNo s from fun C R n l h => by
          obtain ⟨e1, e2, e3, e4⟩ := UL.out C R n l h
          subst e1; subst e2; subst e3
          rw [meshOk_yes (meshOk_congr e4 h.1)] at q
          cases q)
        rw [q]
        clear q
        have z0 := r7.cell 0
        have z1 := r7.cell 1
        have z2 := r7.cell 2
        simp at z0 z1 z2
        have zl := r7.lt
        have zg0 := r7.frozen 0
        have zg1 := r7.frozen 1
        have zg2 := r7.frozen 2
        go_wp2_with fail
        refine bodyPost_ret (v := .tuple #[.agg #[.int .i64 0, .int .i64 0, .slice none 0 0], .bool false]) (by simp [results, Tryd.results42, go_sem, z0, z1, z2]) rfl ⟨retRM_no E.out, ?_⟩
        exact set3 HB7 _ _ _
      · have MT := Lib.hid (implMeshText_any a b Av k cv L w7 fM' own7.sl (fun j hj => spn_64 (SPN.out j hj)) (TT.out.below HB7).1)
        rw [show mMT a b k L = meshTx a b L k by unfold mMT; rw [q]; rfl] at MT
        have OKM := Lib.hid (meshOk_of q)
        rw [q]
        clear q
        go_wp2_with fail
        refine MT.out.mono ?_
        rintro e w8 ⟨rfl, hb8⟩
        clear MT
        have HB8 := HB7.trans (hb8.mono HB7.size)
        have r8 := r7.below hb8 r7.lt
        have k8 := k7.below hb8 k7.lt
        have own8 := (own7.below hb8).mono (base' := w.heap.size) (by have := HB5.size; omega)
        clear c0 c1 c2' cl
        have c0 := k8.cell 0
        have c1 := k8.cell 1
        have c2' := k8.cell 2
        simp at c0 c1 c2'
        have cl := k8.lt
        have z0 := r8.cell 0
        have z1 := r8.cell 1
        have z2 := r8.cell 2
        simp at z0 z1 z2
        have zl := r8.lt
        have zg0 := r8.frozen 0
        have zg1 := r8.frozen 1
        have zg2 := r8.frozen 2
        by_cases q : meshTx a b L k = s
        · have Q := Lib.hid q
          have ownF := ((own8.set r8 (by decide) 0 (.int .i64 a)).set (r8.set_ 0 _) (by decide) 1 (.int .i64 b)).set ((r8.set_ 0 _).set_ 1 _) (by decide) 2 (.slice Av k cv)
          rw [q]
          clear q
          go_wp2_with fail
          refine bodyPost_ret (v := .tuple #[.agg #[.int .i64 a, .int .i64 b, .slice Av k cv], .bool true]) (by simp [results, Tryd.results42, go_sem, z0, z1, z2]) rfl ⟨retRM_yes ⟨OKM.out, Q.out⟩ ownF hzv, ?_⟩
          exact set3 HB8 _ _ _
        · have E := Lib.hid (show MshNo s from fun C R n l h => by
            obtain ⟨e1, e2, e3, e4⟩ := UL.out C R n l h
            subst e1; subst e2; subst e3
            exact q ((meshTx_congr k (fun j hj => (e4 j hj).symm)).trans h.2))
          have q1 : ((meshTx a b L k).toList == s.toList) = false := text_ne q
          clear q
          go_wp2_with fail
          refine bodyPost_ret (v := .tuple #[.agg #[.int .i64 0, .int .i64 0, .slice none 0 0], .bool false]) (by simp [results, Tryd.results42, go_sem, z0, z1, z2]) rfl ⟨retRM_no E.out, ?_⟩
          exact set3 HB8 _ _ _
end Go.Proofs.YthjllledhcfnhaaDoor
