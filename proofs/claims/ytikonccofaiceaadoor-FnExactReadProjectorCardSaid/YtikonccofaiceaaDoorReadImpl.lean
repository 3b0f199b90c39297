/- Numbers and words read from texts, by the program. Conditions: the size of a text; the library's variables lie. -/
import Derived.Test.YtikonccofaiceaaDoorReadSplit
import Derived.Lib.ParseIntBMem
namespace Go.Ks
open Go.RowKit Go.Lib
theorem Row.low {w : World} {base base' : Nat} {e : TypeId} {size : Nat} {v : Value} {n : Nat} {f : Nat → Value} (h : Row w base e size v n f) (hb : base' ≤ base) : Row w base' e size v n f := by
  refine ⟨h.1, ?_⟩
  rcases h.2 with h2 | ⟨g, cap, cur, hv, hg, r⟩
  · exact .inl h2
  · exact .inr ⟨g, cap, cur, hv, by omega, r⟩
theorem text_ne {a b : ByteArray} (h : a ≠ b) : (a.toList == b.toList) = false := by
  refine beq_eq_false_iff_ne.2 (fun e => h ?_)
  rw [Go.Lib.toList_data, Go.Lib.toList_data] at e
  exact ByteArray.ext (Array.ext' e)
theorem trim_minus (t : List UInt8) : trimPrefix (45 :: t) [45] = t := by simp [trimPrefix, hasPrefix]
theorem trim_other {t : List UInt8} (h : t.head? ≠ some 45) : trimPrefix t [45] = t := by
  unfold trimPrefix hasPrefix
  cases t with
  | nil => simp
  | cons b r =>
    have : b ≠ 45 := fun e => h (by rw [e]; rfl)
    simp [List.isPrefixOf, Ne.symm this]
theorem num_trim {l : List UInt8} {n : Int} (h : IsNum l n) : 1 ≤ (trimPrefix l [45]).length ∧ (trimPrefix l [45]).length ≤ 18 := by
  obtain ⟨sg, t, e, hd, h1, h2, _, b, r, et, _⟩ := num_look h
  have ht : trimPrefix l [45] = t := by
    rw [e]
    cases sg
    · rw [if_neg (by decide)]
      refine trim_other (fun he => ?_)
      rw [et] at he
      injection he with he
      have := hd b (by rw [et]; simp)
      rw [he] at this
      revert this
      decide
    · rw [if_pos rfl, trim_minus]
  rw [ht]
  exact ⟨h1, h2⟩
theorem trim_num {l : List UInt8} {v : Int} (h : Lib.itoa v = l) (hl : (trimPrefix l [45]).length ≤ 18) : IsNum l v := by
  refine ⟨?_, h⟩
  rw [← h] at hl
  unfold Lib.itoa at hl
  by_cases q : v < 0
  · rw [if_pos q, trim_minus] at hl
    have h1 := valD_lt _ (dd_dg v.natAbs)
    rw [dd_val] at h1
    have h2 : 10 ^ (decDigits v.natAbs).length ≤ 10 ^ 18 := Nat.pow_le_pow_right (by decide) hl
    omega
  · rw [if_neg q, trim_other (fun he => by
      have := dd_dg v.toNat 45 (List.mem_of_mem_head? (by rw [he]; rfl))
      revert this; decide)] at hl
    have h1 := valD_lt _ (dd_dg v.toNat)
    rw [dd_val] at h1
    have h2 : 10 ^ (decDigits v.toNat).length ≤ 10 ^ 18 := Nat.pow_le_pow_right (by decide) hl
    omega
end Go.Ks
namespace Go.Proofs.YtikonccofaiceaaDoor
open Go.RowKit Go.Lib Go.Ks
/-- the library's variables lie -/
def LibV (w : World) : Prop :=
  Tab w ∧ (∃ m, w.cell? ⟨1, 0, none⟩ = some (.int .i64 m)) ∧
    (∃ ev, w.cell? ⟨3, 0, none⟩ = some ev ∧ (ev = .nilIface ∨ ∃ te pe, ev = .iface te pe)) ∧
    ∃ ev, w.cell? ⟨4, 0, none⟩ = some ev ∧ (ev = .nilIface ∨ ∃ te pe, ev = .iface te pe)
theorem cell_keep {w w' : World} {b : Nat} {v : Value} (hb : Below w.heap.size w w') (h : w.cell? ⟨b, 0, none⟩ = some v) : w'.cell? ⟨b, 0, none⟩ = some v :=
  (hb.cell (show (⟨b, 0, none⟩ : Addr).block < w.heap.size from Lib.lt_of_cell h)).trans h
theorem LibV.below {w w' : World} (h : LibV w) (hb : Below w.heap.size w w') : LibV w' := by
  obtain ⟨h1, ⟨m, h2⟩, ⟨e1, h3, h4⟩, e2, h5, h6⟩ := h
  exact ⟨h1.below hb, ⟨m, cell_keep hb h2⟩, ⟨e1, cell_keep hb h3, h4⟩, e2, cell_keep hb h5, h6⟩
set_option maxRecDepth 100000 in
set_option maxHeartbeats 2000000 in
theorem readDecimal_any (s : ByteArray) (hs : s.size ≤ 1048576) (w : World) (hT : LibV w) :
    Calls Tryd.prog 85 #[.string s] w fun e w' => NumR s e ∧ Below w.heap.size w w' := by
  have TT := Lib.hid hT
  clear hT
  obtain ⟨td, htd⟩ : ∃ td : ByteArray, ⟨(trimPrefix s.data.toList [45]).toArray⟩ = td := ⟨_, rfl⟩
  have tsz : td.size = (trimPrefix s.data.toList [45]).length := by rw [← htd]; exact List.size_toArray
  have tp := Tryd.strings_TrimPrefix s ⟨#[45]⟩ w
  rw [show (⟨#[45]⟩ : ByteArray).data.toList = [45] from rfl, htd] at tp
  have TP := Lib.hid tp
  have TSZ := Lib.hid tsz
  clear htd tp tsz
  go_enter Tryd.func85, Tryd.ntmps85
  go_wp2_with fail
  refine TP.out.mono ?_
  rintro e w1 ⟨rfl, rfl⟩
  clear TP
  by_cases q : 1 ≤ td.size ∧ td.size ≤ 18
  · have q1 : ¬ (td.size : Int) < 1 := by omega
    have q2 : ¬ 18 < (td.size : Int) := by omega
    have l18 : (trimPrefix s.data.toList [45]).length ≤ 18 := by rw [← TSZ.out]; exact q.2
    have L18 := Lib.hid l18
    clear q l18
    obtain ⟨T1, _, ⟨ev1, hv1, he1⟩, ev2, hv2, he2⟩ := TT.out
    have TAB := Lib.hid T1
    clear T1
    cases hp : parseIntB 64 s.data.toList with
    | ok v =>
      have PI := Lib.hid (Tryd.strconv_ParseInt_10_at64_ok s (by omega) v hp w1)
      have vb := parseIntB_bounds hp
      have vb1 : -9223372036854775808 ≤ v ∧ v ≤ 9223372036854775807 := by
        have e1 : ((2 ^ (64 - 1) : Nat) : Int) = 9223372036854775808 := by decide
        rw [e1] at vb
        omega
      have HP := Lib.hid hp
      clear hp vb hv1 he1 hv2 he2
      go_wp2_with fail
      refine PI.out.mono ?_
      rintro e w2 ⟨rfl, hw2⟩
      have hb2 : Below w1.heap.size w1 w2 := by
        rcases hw2 with rfl | ⟨t, rfl⟩
        · exact Below.refl _ _
        · exact Lib.bytesWorld_below _ _ _
      clear hw2 PI
      go_wp2_with fail
      refine (decimal_any v vb1 _ (TAB.out.below hb2)).mono ?_
      rintro e w3 ⟨rfl, hb3⟩
      have hb := hb2.trans (hb3.mono hb2.size)
      by_cases q : decB v = s
      · have E := Lib.hid (numR_yes (s := s) (trim_num (v := v) (by rw [← q]; simp [decB]) L18.out))
        rw [q]
        clear q
        go_wp2_with fail
        go_ret2
        exact ⟨E.out, hb⟩
      · have E := Lib.hid (numR_no (s := s) (fun n h => by
          have h2 := parse_num h
          rw [HP.out] at h2
          injection h2 with h2
          subst h2
          refine q ?_
          unfold decB
          rw [h.2]))
        have q1 : ((decB v).toList == s.toList) = false := text_ne q
        go_wp2_with fail
        go_ret2
        exact ⟨E.out, hb⟩
    | range =>
      have E := Lib.hid (numR_no (s := s) (fun n h => by have := parse_num h; rw [hp] at this; cases this))
      have PI := Lib.hid (Tryd.strconv_ParseInt_10_at64_range s (by omega) hp ev2 w1 hv2 he2)
      clear hp hv1 he1 hv2 he2
      go_wp2_with fail
      refine PI.out.mono ?_
      rintro e w2 ⟨N, rfl, _, _, hb2⟩
      clear PI
      go_wp2_with fail
      go_ret2
      exact ⟨E.out, hb2⟩
    | _ =>
      have E := Lib.hid (numR_no (s := s) (fun n h => by have := parse_num h; rw [hp] at this; cases this))
      have PI := Lib.hid (Tryd.strconv_ParseInt_10_at64_none s (by omega) hp ev1 w1 hv1 he1)
      clear hp hv1 he1 hv2 he2
      go_wp2_with fail
      refine PI.out.mono ?_
      rintro e w2 ⟨N, rfl, _, _, hb2⟩
      clear PI
      go_wp2_with fail
      go_ret2
      exact ⟨E.out, hb2⟩
  · have E := Lib.hid (numR_no (s := s) (fun n h => by
      have := num_trim h
      have := TSZ.out
      omega))
    have q' : (td.size : Int) < 1 ∨ (¬ (td.size : Int) < 1 ∧ 18 < (td.size : Int)) := by omega
    clear q
    rcases q' with q | ⟨q, q1⟩
    all_goals
      go_wp2_with fail
      go_ret2
      exact ⟨E.out, Below.refl _ _⟩
/-- the words of a line -/
def wordsOf (l : List UInt8) : List (List UInt8) := (splitC 32 l).filter (fun x => decide (x ≠ []))
theorem arr_words (ws : List (List UInt8)) : ((ws.map (fun l => (⟨l.toArray⟩ : ByteArray))).map Value.string).toArray = arr ws.length (wdC ws) := by
  apply Array.ext_getElem?
  intro j
  rw [arr_get?, List.getElem?_toArray]
  by_cases hj : j < ws.length
  · rw [if_pos hj]
    unfold wdC
    rw [List.getD_eq_getElem?_getD]
    simp [hj]
  · rw [if_neg hj]
    simp
    omega
theorem split_any (s : ByteArray) (hs : s.size ≤ 1048576) (w : World) (hT : LibV w) :
    Calls Tryd.prog 96 #[.string s, .string ⟨#[32]⟩] w fun e w' => e = .returned (.slice (some ⟨w.heap.size, 0, none⟩) (splitC 32 s.data.toList).length (splitC 32 s.data.toList).length) ∧ Blk w' w.heap.size 9 (arr (splitC 32 s.data.toList).length (wdC (splitC 32 s.data.toList))) ∧ Below w.heap.size w w' := by
  obtain ⟨_, ⟨m, hm⟩, _⟩ := hT
  refine (Tryd.strings_Split s ⟨#[32]⟩ m w (by omega) hm (by decide)).mono ?_
  rintro e w' ⟨rfl, rfl⟩
  have h1 := splitB_one 32 s
  have h2 := splitB_all ⟨#[32]⟩ (by decide) 0 _ s rfl
  rw [h1, List.length_map] at h2
  rw [h1, arr_words, ← h2]
  exact ⟨rfl, Blk.new w _ _, (Below.refl _ _).alloc (Nat.le_refl _) _⟩
theorem take_word {ws : List (List UInt8)} {k : Nat} (h : k < ws.length) : ws.take (k + 1) = ws.take k ++ [ws.getD k []] := by
  rw [List.take_add_one, List.getD_eq_getElem?_getD, List.getElem?_eq_getElem h]
  rfl
theorem emptyL {x : List UInt8} (h : x = []) : (⟨x.toArray⟩ : ByteArray).toList.isEmpty = true := by
  rw [Go.Lib.toList_data]; subst h; rfl
theorem fullL {x : List UInt8} (h : x ≠ []) : (⟨x.toArray⟩ : ByteArray).toList.isEmpty = false := by
  rw [Go.Lib.toList_data]
  cases x with
  | nil => exact absurd rfl h
  | cons b r => rfl
theorem filter_len (ws : List (List UInt8)) (k : Nat) : ((ws.take k).filter (fun x => decide (x ≠ []))).length ≤ ws.length := by
  have h1 := List.length_filter_le (fun x : List UInt8 => decide (x ≠ [])) (ws.take k)
  have h2 := List.length_take_le k ws
  have h3 : (ws.take k).length ≤ ws.length := by rw [List.length_take]; omega
  omega
theorem splitC_len (c : UInt8) : ∀ l : List UInt8, (splitC c l).length ≤ l.length + 1
  | [] => Nat.le_refl _
  | b :: l => by
    have ih := splitC_len c l
    obtain ⟨y, t, e⟩ := splitC_cons c l
    rw [splitC]
    rw [e] at ih ⊢
    rw [List.length_cons] at ih
    split
    · rw [List.length_cons, List.length_cons, List.length_cons]; omega
    · rw [List.length_cons, List.tail_cons, List.length_cons]; omega
set_option maxRecDepth 100000 in
set_option maxHeartbeats 2000000 in
theorem splitWords_any (s : ByteArray) (hs : s.size ≤ 1048576) (w : World) (hT : LibV w) :
    Calls Tryd.prog 55 #[.string s] w fun e w' => (∃ v, e = .returned v ∧ Row w' w.heap.size 9 1 v (wordsOf s.data.toList).length (wdC (wordsOf s.data.toList))) ∧ Below w.heap.size w w' := by
  obtain ⟨i0, hi, hz0, hz1, hz2⟩ := info_parts Tryd.infoTx
  have SP := Lib.hid (split_any s hs w hT)
  have wl := splitC_len 32 s.data.toList
  rw [list_len] at wl
  unfold wordsOf
  obtain ⟨ws, hws⟩ : ∃ ws, splitC 32 s.data.toList = ws := ⟨_, rfl⟩
  rw [hws] at SP wl ⊢
  clear hT hws
  go_enter Tryd.func55, Tryd.ntmps55
  go_wp2_with fail
  refine SP.out.mono ?_
  rintro e w1 ⟨rfl, kb, hb1⟩
  have sz1 := hb1.size
  have bl := kb.lt
  have CW := Lib.hid (fun (w' : World) (hb : Below w1.heap.size w1 w') (j : Nat) (hj : j < ws.length) => show w'.cell? ⟨w.heap.size, j, none⟩ = some (.string ⟨(ws.getD j []).toArray⟩) by rw [(kb.below hb kb.lt).cell, arr_get _ _ _ hj]; rfl)
  clear kb SP
  go_wp2_with fail
  go_loopw [3, 5, 9] (fun v _ i wr => ∃ k : Nat, k ≤ ws.length ∧ i = .int .i64 (k : Int) ∧ Row wr w1.heap.size 9 1 v ((ws.take k).filter (fun x => decide (x ≠ []))).length (wdC ((ws.take k).filter (fun x => decide (x ≠ [])))) ∧ Below w1.heap.size w1 wr) (fun _ _ i _ => ws.length - (RowKit.intOf i).toNat)
  case atStart => exact ⟨0, Nat.zero_le _, rfl, Row.nil _ _ _ _ _, Below.refl _ _⟩
  case round =>
    obtain ⟨k, hk, rfl, row, hbl⟩ := hrel
    have bsz := hbl.size
    by_cases hlt : k < ws.length
    · have hlt' : (k : Int) < (ws.length : Int) := by omega
      have cw := CW.out wr hbl k hlt
      have bl' : w.heap.size < wr.heap.size := by omega
      have fl := filter_len ws k
      have TK := Lib.hid (take_word hlt)
      obtain ⟨x, hx⟩ : ∃ x, ws.getD k [] = x := ⟨_, rfl⟩
      rw [hx] at cw TK
      clear hx
      obtain ⟨xb, hxb⟩ : ∃ xb : ByteArray, ⟨x.toArray⟩ = xb := ⟨_, rfl⟩
      rw [hxb] at cw
      have HXB := Lib.hid hxb
      clear hxb
      by_cases q : x = []
      · have F := Lib.hid (show ((ws.take (k + 1)).filter (fun x => decide (x ≠ []))) = ((ws.take k).filter (fun x => decide (x ≠ []))) by rw [TK.out, List.filter_append]; simp [q])
        have e0 := emptyL q
        rw [HXB.out] at e0
        clear q
        go_wp2_with fail
        go_roundw
        case rel => exact ⟨k + 1, by omega, by go_num, by rw [F.out]; exact row, hbl⟩
        case measure => simp [RowKit.intOf]; omega
      · have F := Lib.hid (show ((ws.take (k + 1)).filter (fun x => decide (x ≠ []))) = ((ws.take k).filter (fun x => decide (x ≠ []))) ++ [x] by rw [TK.out, List.filter_append]; simp [q])
        have e0 := fullL q
        rw [HXB.out] at e0
        clear q
        generalize ((ws.take k).filter (fun x => decide (x ≠ []))) = fs at *
        have row7 := row.congr (f' := wdC (fs ++ [x])) (fun j hj => wdC_old (by omega))
        go_wp2_with (at_builtin; refine wpList_append_row rfl _ _ 82 rfl w1.heap.size 9 i0 _ 1 16 Tryd.underlying82 hi hz0 hz1 hz2 rfl (by decide) _ fs.length (wdC (fs ++ [x])) rfl (row7.alloc _) wr.heap.size 1 rfl ?c1 (wd_one _ _) ?c3 ?c4 ?c5 ?_)
        case c1 => exact wd_news (Blk.new wr _ _) HXB.out.symm
        case c3 => omega
        case c4 => omega
        case c5 => first | omega | (simp; omega)
        intro v' w7 row8 hg7
        have gw7 := Row.after (hbl.alloc bsz _) (Nat.le_refl _) (by simp; omega) (row7.alloc _) hg7 row8
        clear hg7 row7
        go_wp2_with fail
        go_roundw
        case rel => exact ⟨k + 1, by omega, by go_num, by rw [F.out, List.length_append]; exact row8, gw7⟩
        case measure => simp [RowKit.intOf]; omega
    · obtain rfl : k = ws.length := by omega
      have hbw := hb1.trans (hbl.mono hb1.size)
      rw [List.take_length] at row
      have row2 := Row.low row sz1
      go_wp2_with fail
      go_ret
      exact ⟨⟨_, rfl, row2⟩, hbw⟩
/-- the numbers read so far -/
noncomputable def numC (ws : List (List UInt8)) (k : Nat) (j : Nat) : Value := if j < k then .int .i64 (numV (ws.getD j [])) else .int .i64 0
theorem num_step {ws : List (List UInt8)} {k m : Nat} {w : World} {B : Nat} {t : TypeId} (h : Blk w B t (arr m (numC ws k))) : Blk (w.setCell ⟨B, k, none⟩ (.int .i64 (numV (ws.getD k [])))) B t (arr m (numC ws (k + 1))) := by
  have h2 := h.set_ k (.int .i64 (numV (ws.getD k [])))
  rw [arr_set] at h2
  exact h2.congr (fun j _ => by
    unfold numC
    by_cases e : j = k
    · subst e; rw [if_pos rfl, if_pos (by omega)]
    · rw [if_neg e]
      by_cases q : j < k
      · rw [if_pos q, if_pos (by omega)]
      · rw [if_neg q, if_neg (by omega)])
theorem made_nums (ws : List (List UInt8)) (n : Nat) : madeCells (Value.int .i64 0).cells (n * 1) = arr n (numC ws 0) := by
  rw [made_arr, Nat.mul_one]
  apply arr_ext
  intro j _
  have hj : j % 1 = 0 := Nat.mod_one j
  simp only [Value.cells, numC]
  rw [if_neg (by omega)]
  show #[Value.int IntKind.i64 0][j % 1]! = _
  rw [hj]
  rfl
theorem Tryd.infoI64 : (Tryd.prog.info? 2).map (fun i => (i.zero, i.size, i.bytes)) = some (some (.int .i64 0), 1, 8) := by kernel_rfl
theorem decimal_eq (p : List UInt8) (hs : p.length ≤ 1048576) (w : World) (hT : LibV w) :
    Calls Tryd.prog 85 #[.string ⟨p.toArray⟩] w fun e w' => e = .returned (.tuple #[.int .i64 (numV p), .bool (numOk p)]) ∧ Below w.heap.size w w' := by
  have h := readDecimal_any ⟨p.toArray⟩ (by show p.toArray.size ≤ _; rw [List.size_toArray]; omega) w hT
  unfold NumR at h
  have eL : (⟨p.toArray⟩ : ByteArray).data.toList = p := by simp
  rw [eL] at h
  exact h
set_option maxRecDepth 100000 in
set_option maxHeartbeats 2000000 in
theorem readNumbers_any (A : Option Addr) (n c : Nat) (ws : List (List UInt8)) (w : World) (hn : n ≤ 1048577) (hw : ∀ j, j < n → (ws.getD j []).length ≤ 1048576) (hs : Sl w A (n * 1) (wdC ws)) (hT : LibV w) :
    Calls Tryd.prog 57 #[.slice A n c] w fun e w' => ((∃ B : Nat, e = .returned (.tuple #[.slice (some ⟨B, 0, none⟩) n n, .bool true]) ∧ w.heap.size ≤ B ∧ Blk w' B 2 (arr n (numC ws n)) ∧ ∀ j, j < n → numOk (ws.getD j []) = true) ∨ (e = .returned (.tuple #[.slice none 0 0, .bool false]) ∧ ∃ j, j < n ∧ numOk (ws.getD j []) = false)) ∧ Below w.heap.size w w' := by
  obtain ⟨i0, hi, hz0, hz1, hz2⟩ := info_parts Tryd.infoI64
  have hmk := fun W => run_make_rowN (P := Tryd.prog) 43 2 i0 _ Tryd.underlying43 hi hz0 .i64 .i64 n n (Nat.le_refl _) (by rw [hz2]; omega) (by omega) W
  rw [hz1, made_nums ws n] at hmk
  have n1 : (n : Int) ≤ 1048577 := by omega
  have TT := Lib.hid hT
  have HW := Lib.hid hw
  have SS := Lib.hid hs
  clear hi hz0 hz1 hz2 hT hw hs
  go_enter Tryd.func57, Tryd.ntmps57
  go_wp2_with fail
  generalize hV : World.alloc _ _ = w1
  have hb1 : Below w.heap.size w w1 := by rw [← hV]; exact (Below.refl _ _).alloc (Nat.le_refl _) _
  have k1 : Blk w1 w.heap.size 2 (arr n (numC ws 0)) := by rw [← hV]; exact Blk.new w _ _
  clear hV hmk
  go_loopw [5, 6, 7, 8, 14] (fun _ _ _ _ i wr => ∃ k : Nat, k ≤ n ∧ i = .int .i64 (k : Int) ∧ Blk wr w.heap.size 2 (arr n (numC ws k)) ∧ (∀ j, j < k → numOk (ws.getD j []) = true) ∧ Below w.heap.size w wr) (fun _ _ _ _ i _ => n - (RowKit.intOf i).toNat)
  case atStart => exact ⟨0, Nat.zero_le _, rfl, k1, fun j hj => by omega, hb1⟩
  case round =>
    obtain ⟨k, hk, rfl, kb, hall, hbl⟩ := hrel
    have HALL := Lib.hid hall
    clear hall
    by_cases hlt : k < n
    · have hlt' : (k : Int) < (n : Int) := by omega
      obtain ⟨b, off, rfl, hb, hc⟩ := (SS.out.below hbl) (by omega)
      have d0 : wr.cell? ⟨b, off + k, none⟩ = some (.string ⟨(ws.getD k []).toArray⟩) := hc k (by omega)
      have LP := Lib.hid (HW.out k hlt)
      obtain ⟨p, hp⟩ : ∃ p, ws.getD k [] = p := ⟨_, rfl⟩
      have HP := Lib.hid hp
      rw [hp] at d0 LP
      clear hc hp
      go_wp2_with fail
      refine (decimal_eq p LP.out _ (TT.out.below hbl)).mono ?_
      rintro e w3 ⟨rfl, hb3⟩
      have kb3 := kb.below hb3 kb.lt
      have hbl3 := hbl.trans (hb3.mono hbl.size)
      clear kb d0
      cases q : numOk p
      · have Q := Lib.hid q
        clear q
        go_wp2_with fail
        go_ret2
        exact ⟨.inr ⟨rfl, k, hlt, by rw [HP.out]; exact Q.out⟩, hbl3⟩
      · have HK := Lib.hid (show ∀ j, j < k + 1 → numOk (ws.getD j []) = true from fun j hj => by
          by_cases e : j = k
          · subst e; rw [HP.out]; exact q
          · exact HALL.out j (by omega))
        clear q
        have z := kb3.frozen k
        have bl := kb3.lt
        have cz := kb3.cell k
        rw [arr_get _ _ _ hlt] at cz
        go_wp2_with fail
        have k4 := num_step kb3
        rw [HP.out] at k4
        have hb4 := hbl3.setCell (p := ⟨w.heap.size, k, none⟩) (Nat.le_refl _) (.int .i64 (numV p))
        go_roundw
        case rel => exact ⟨k + 1, by omega, by go_num, k4, HK.out, hb4⟩
        case measure => simp [RowKit.intOf]; omega
    · obtain rfl : k = n := by omega
      go_wp2_with fail
      go_ret2
      exact ⟨.inl ⟨w.heap.size, rfl, Nat.le_refl _, kb, HALL.out⟩, hbl⟩
end Go.Proofs.YtikonccofaiceaaDoor
