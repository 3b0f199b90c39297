/- ReadCurve. Conditions: the size of a text; the library's variables lie. -/
import Derived.Test.YtjomlcjchndkeaaDoorReadSplit
import Derived.Test.YtjomlcjchndkeaaDoorCurveText
import Derived.Test.YtjomlcjchndkeaaDoorCurve
namespace Go.Ks
open Go.RowKit Go.Lib
theorem knot_list (x : KnotD) : (knotTx x).data.toList = Lib.itoa x.f0 ++ 58 :: Lib.itoa x.f1 := by
  unfold knotTx decB
  rw [ByteArray.data_append, ByteArray.data_append]
  simp
theorem itoa_chars (n : Int) : ∀ b ∈ Lib.itoa n, b = 45 ∨ isDg b := fun b hb => by
  unfold Lib.itoa at hb
  split at hb
  · rcases List.mem_cons.1 hb with h | h
    · exact .inl h
    · exact .inr (dd_dg _ b h)
  · exact .inr (dd_dg _ b hb)
theorem itoa_not {c : UInt8} (h : c ≠ 45) (h2 : ¬ isDg c) (n : Int) : c ∉ Lib.itoa n := fun hc => by
  rcases itoa_chars n c hc with e | e
  · exact h e
  · exact h2 e
theorem itoa_58 (n : Int) : (58 : UInt8) ∉ Lib.itoa n := itoa_not (by decide) (by decide) n
theorem itoa_32 (n : Int) : (32 : UInt8) ∉ Lib.itoa n := itoa_not (by decide) (by decide) n
theorem itoa_ne (n : Int) : Lib.itoa n ≠ [] := fun e => by
  unfold Lib.itoa at e
  split at e
  · cases e
  · obtain ⟨b, l, h, _⟩ := dd_ne n.toNat
    rw [h] at e; cases e
theorem knot_32 (x : KnotD) : (32 : UInt8) ∉ (knotTx x).data.toList := fun h => by
  rw [knot_list] at h
  rcases List.mem_append.1 h with h | h
  · exact itoa_32 _ h
  · rcases List.mem_cons.1 h with h | h
    · revert h; decide
    · exact itoa_32 _ h
theorem knot_split (x : KnotD) : splitC 58 (knotTx x).data.toList = [Lib.itoa x.f0, Lib.itoa x.f1] := by
  rw [knot_list, splitC_app (itoa_58 _), splitC_none (itoa_58 _)]
theorem knot_ne (x : KnotD) : (knotTx x).data.toList ≠ [] := fun e => by
  rw [knot_list] at e
  simp at e
theorem knot_inj {x y : KnotD} (h : (knotTx x).data.toList = (knotTx y).data.toList) : x = y := by
  have hx := knot_split x
  rw [h, knot_split y] at hx
  injection hx with h1 h2
  injection h2 with h2 _
  cases x; cases y
  have e1 := itoa_inj h1
  have e2 := itoa_inj h2
  simp only at e1 e2
  rw [e1, e2]
/-- the words of a curve's text -/
theorem curve_words (l : Nat → KnotD) (n : Nat) : splitC 32 (curveTx l (n + 1)).data.toList = (knotWords l (n + 1)).map (·.data.toList) := by
  rw [← join_curve]
  obtain ⟨a, xs, hw⟩ := words_cons l n
  have hall : ∀ y ∈ knotWords l (n + 1), (32 : UInt8) ∉ y.data.toList := fun y hy => by
    unfold knotWords at hy
    obtain ⟨j, _, rfl⟩ := List.mem_map.1 hy
    exact knot_32 _
  rw [hw] at hall ⊢
  rw [List.map_cons]
  refine splitC_join (hall a (by simp)) (fun y hy => ?_)
  obtain ⟨z, hz, rfl⟩ := List.mem_map.1 hy
  exact hall z (by simp [hz])
theorem words_get (l : Nat → KnotD) {n j : Nat} (h : j < n) : ((knotWords l n).map (·.data.toList)).getD j [] = (knotTx (l j)).data.toList := by
  unfold knotWords
  rw [List.getD_eq_getElem?_getD]
  simp [h]
theorem words_len (l : Nat → KnotD) (n : Nat) : ((knotWords l n).map (·.data.toList)).length = n := by simp [knotWords]
/-- the curve with a text -/
def CurIs (s : ByteArray) (n : Nat) (l : Nat → KnotD) : Prop := CurveOk n l ∧ curveTx l n = s
theorem cur_words {s : ByteArray} {n : Nat} {l : Nat → KnotD} (hn : 1 ≤ n) (h : curveTx l n = s) : (splitC 32 s.data.toList).length = n ∧ ∀ j, j < n → (splitC 32 s.data.toList).getD j [] = (knotTx (l j)).data.toList := by
  obtain ⟨m, rfl⟩ : ∃ m, n = m + 1 := ⟨n - 1, by omega⟩
  rw [← h, curve_words]
  exact ⟨words_len _ _, fun j hj => words_get l hj⟩
theorem words_eq {ws : List (List UInt8)} {l : Nat → KnotD} (h : ∀ j, j < ws.length → ws.getD j [] = (knotTx (l j)).data.toList) : ws = (knotWords l ws.length).map (·.data.toList) := by
  apply List.ext_getElem?
  intro j
  by_cases hj : j < ws.length
  · have h1 := h j hj
    have h2 := words_get l hj
    rw [List.getD_eq_getElem?_getD, List.getElem?_eq_getElem hj] at h1
    rw [List.getD_eq_getElem?_getD, List.getElem?_eq_getElem (by rw [words_len]; exact hj)] at h2
    rw [List.getElem?_eq_getElem hj, List.getElem?_eq_getElem (by rw [words_len]; exact hj)]
    simp only [Option.getD_some] at h1 h2
    rw [h1, h2]
  · rw [List.getElem?_eq_none (by omega), List.getElem?_eq_none (by rw [words_len]; omega)]
theorem words_text {s : ByteArray} {l : Nat → KnotD} (h : ∀ j, j < (splitC 32 s.data.toList).length → (splitC 32 s.data.toList).getD j [] = (knotTx (l j)).data.toList) : curveTx l (splitC 32 s.data.toList).length = s := by
  have hw := words_eq h
  obtain ⟨a, t, e⟩ := splitC_cons 32 s.data.toList
  obtain ⟨m, hm⟩ : ∃ m, (splitC 32 s.data.toList).length = m + 1 := ⟨t.length, by rw [e]; rfl⟩
  have hj := join_splitC 32 s.data.toList
  rw [hw, hm, join_curve] at hj
  rw [hm]
  apply ByteArray.ext
  apply Array.ext'
  exact hj
theorem cur_uniq {s : ByteArray} {n n' : Nat} {l l' : Nat → KnotD} (hn : 1 ≤ n) (hn' : 1 ≤ n') (h : curveTx l n = s) (h' : curveTx l' n' = s) : n = n' ∧ ∀ j, j < n → l j = l' j := by
  obtain ⟨a, b⟩ := cur_words hn h
  obtain ⟨a', b'⟩ := cur_words hn' h'
  have e : n = n' := a.symm.trans a'
  refine ⟨e, fun j hj => knot_inj ?_⟩
  rw [← b j hj, b' j (by omega)]
theorem curveOk_congr {n : Nat} {l l' : Nat → KnotD} (h : ∀ j, j < n → l j = l' j) (ok : CurveOk n l) : CurveOk n l' := by
  obtain ⟨a, b, c, d, e⟩ := ok
  refine ⟨a, b, by rw [← h 0 (by omega)]; exact c, by rw [← h (n - 1) (by omega)]; exact d, fun k hk => ?_⟩
  obtain ⟨e1, e2⟩ := e k hk
  rw [h k hk] at e1 e2
  refine ⟨e1, fun h0 => ?_⟩
  have := e2 h0
  rw [h (k - 1) (by omega)] at this
  exact this
open Classical in
noncomputable def rcB (s : ByteArray) : Bool := if ∃ p : Nat × (Nat → KnotD), CurIs s p.1 p.2 then true else false
open Classical in
noncomputable def rcP (s : ByteArray) : Nat × (Nat → KnotD) := if h : ∃ p : Nat × (Nat → KnotD), CurIs s p.1 p.2 then h.choose else (0, fun _ => ⟨0, 0⟩)
noncomputable def mReadCurveN (s : ByteArray) : Nat := (rcP s).1
noncomputable def mReadCurveL (s : ByteArray) : Nat → KnotD := (rcP s).2
theorem rc_no {s : ByteArray} (h : ∀ n l, ¬ CurIs s n l) : rcB s = false ∧ mReadCurveN s = 0 := by
  have hx : ¬ ∃ p : Nat × (Nat → KnotD), CurIs s p.1 p.2 := fun ⟨p, hp⟩ => h _ _ hp
  refine ⟨if_neg hx, ?_⟩
  unfold mReadCurveN rcP
  rw [dif_neg hx]
theorem rc_yes {s : ByteArray} {n : Nat} {l : Nat → KnotD} (h : CurIs s n l) : rcB s = true ∧ mReadCurveN s = n ∧ ∀ j, j < n → mReadCurveL s j = l j := by
  have hx : ∃ p : Nat × (Nat → KnotD), CurIs s p.1 p.2 := ⟨(n, l), h⟩
  have e : rcP s = hx.choose := by unfold rcP; rw [dif_pos hx]
  have hc := hx.choose_spec
  rw [← e] at hc
  obtain ⟨e1, e2⟩ := cur_uniq (by have := hc.1.1; omega) (by have := h.1.1; omega) hc.2 h.2
  exact ⟨if_pos hx, e1, fun j hj => e2 j (by omega)⟩
theorem mReadCurve_len (s : ByteArray) : mReadCurveN s ≤ 1048576 := by
  by_cases hx : ∃ p : Nat × (Nat → KnotD), CurIs s p.1 p.2
  · obtain ⟨p, hp⟩ := hx
    rw [(rc_yes hp).2.1]
    have := hp.1.2.1
    omega
  · rw [(rc_no (fun n l h => hx ⟨(n, l), h⟩)).2]; omega
/-- a word that is a knot's text -/
theorem word_knot {w p0 p1 : List UInt8} (h : splitC 58 w = [p0, p1]) (h0 : numOk p0 = true) (h1 : numOk p1 = true) : w = (knotTx ⟨numV p0, numV p1⟩).data.toList := by
  have hj := join_splitC 58 w
  rw [h, Lib.join_cons] at hj
  rw [knot_list, (num_of h0).2, (num_of h1).2, ← hj]
  simp [Lib.joinTail]
theorem knot_word {x : KnotD} {w : List UInt8} (h : w = (knotTx x).data.toList) (h0 : 0 ≤ x.f0 ∧ x.f0 ≤ 1000) (h1 : 0 ≤ x.f1 ∧ x.f1 ≤ 1000) : ∃ p0 p1, splitC 58 w = [p0, p1] ∧ numOk p0 = true ∧ numOk p1 = true ∧ w = p0 ++ 58 :: p1 ∧ (58 : UInt8) ∉ p0 ∧ x = ⟨numV p0, numV p1⟩ := by
  have n0 : IsNum (Lib.itoa x.f0) x.f0 := ⟨by omega, rfl⟩
  have n1 : IsNum (Lib.itoa x.f1) x.f1 := ⟨by omega, rfl⟩
  exact ⟨_, _, by rw [h, knot_split], (num_yes n0).1, (num_yes n1).1, by rw [h, knot_list], itoa_58 _, by rw [(num_yes n0).2, (num_yes n1).2]⟩
theorem cur_word {s : ByteArray} {n : Nat} {l : Nat → KnotD} (h : CurIs s n l) {k : Nat} (hk : k < (splitC 32 s.data.toList).length) : ∃ p0 p1, splitC 58 ((splitC 32 s.data.toList).getD k []) = [p0, p1] ∧ numOk p0 = true ∧ numOk p1 = true := by
  obtain ⟨a, b⟩ := cur_words (by have := h.1.1; omega) h.2
  obtain ⟨p0, p1, e0, e1, e2, _⟩ := knot_word (b k (by omega)) (curve_in h.1 (by omega)) (curve_out h.1 (by omega))
  exact ⟨p0, p1, e0, e1, e2⟩
theorem splitC_le {c : UInt8} : ∀ (l : List UInt8), ∀ x ∈ splitC c l, x.length ≤ l.length
  | [], x, h => by simp [splitC] at h; subst h; simp
  | b :: l, x, h => by
    obtain ⟨y, t, e⟩ := splitC_cons c l
    rw [splitC] at h
    split at h
    · rcases List.mem_cons.1 h with rfl | h
      · simp
      · have := splitC_le l x h
        rw [List.length_cons]; omega
    · rw [e] at h
      rcases List.mem_cons.1 h with rfl | h
      · have := splitC_le (c := c) l y (by rw [e]; simp)
        simp only [List.headD_cons, List.length_cons]; omega
      · have := splitC_le (c := c) l x (by rw [e]; exact List.mem_cons_of_mem _ h)
        rw [List.length_cons]; omega
theorem getD_le {c : UInt8} (l : List UInt8) (k : Nat) : ((splitC c l).getD k []).length ≤ l.length := by
  rw [List.getD_eq_getElem?_getD]
  cases h : (splitC c l)[k]? with
  | none => simp
  | some x => exact splitC_le l x (List.mem_of_getElem? h)
theorem curveTx_ge {l : Nat → KnotD} : ∀ k, k ≤ (curveTx l k).size
  | 0 => Nat.zero_le _
  | 1 => by
    show 1 ≤ (knotTx (l 0)).size
    unfold knotTx
    rw [ByteArray.size_append, ByteArray.size_append, one_byte]
    omega
  | k + 2 => by
    have ih := curveTx_ge (l := l) (k + 1)
    unfold curveTx
    rw [ByteArray.size_append, ByteArray.size_append, one_byte]
    omega
/-- knots read so far -/
def KnotsTo (ws : List (List UInt8)) (k : Nat) (l : Nat → KnotD) : Prop := ∀ j, j < k → ws.getD j [] = (knotTx (l j)).data.toList
end Go.Ks
namespace Go.Proofs.YtjomlcjchndkeaaDoor
open Go.RowKit Go.Lib Go.Ks
/-- what a reader of curves leaves -/
def RetRC (s : ByteArray) (w w' : World) (e : Ending) : Prop :=
  ∃ (A : Option Addr) (c : Nat), e = .returned (.tuple #[.slice A (mReadCurveN s) c, .bool (rcB s)]) ∧ Own w' w.heap.size 35 2 A (mReadCurveN s) (KnotC (mReadCurveL s)) ∧ (A = none → c = 0)
theorem retRC_no {s : ByteArray} {w w' : World} (h : ∀ n l, ¬ CurIs s n l) : RetRC s w w' (.returned (.tuple #[.slice none 0 0, .bool false])) := by
  obtain ⟨e1, e2⟩ := rc_no h
  refine ⟨none, 0, by rw [e1, e2], ?_, fun _ => rfl⟩
  rw [e2]
  exact Own.nil _ _ _ _ _
theorem retRC_yes {s : ByteArray} {w w' : World} {n c : Nat} {A : Option Addr} {l : Nat → KnotD} (h : CurIs s n l) (ho : Own w' w.heap.size 35 2 A n (KnotC l)) (hz : A = none → c = 0) : RetRC s w w' (.returned (.tuple #[.slice A n c, .bool true])) := by
  obtain ⟨e1, e2, e3⟩ := rc_yes h
  refine ⟨A, c, by rw [e1, e2], ?_, hz⟩
  rw [e2]
  refine ho.congr (fun j hj => ?_)
  obtain ⟨q, hq⟩ : ∃ q, j = q * 2 ∨ j = q * 2 + 1 := ⟨j / 2, by omega⟩
  rcases hq with rfl | rfl
  · rw [KnotC0, KnotC0, e3 q (by omega)]
  · rw [KnotC1, KnotC1, e3 q (by omega)]
theorem Tryd.infoKn : (Tryd.prog.info? 35).map (fun i => (i.zero, i.size, i.bytes)) = some (some (.agg #[.int .i64 0, .int .i64 0]), 2, 16) := by kernel_rfl
theorem kn_one (l : Nat → KnotD) (n j : Nat) (hj : j < 2) : (KnotC l (n * 2 + j)).oneCell' = true := by
  match j, hj with
  | 0, _ => rw [Nat.add_zero, KnotC0]; rfl
  | 1, _ => rw [KnotC1]; rfl
/-- one knot more -/
def addKn (L : Nat → KnotD) (n : Nat) (x y : Int) : Nat → KnotD := fun j => if j = n then ⟨x, y⟩ else L j
theorem addKn_old {L : Nat → KnotD} {n : Nat} {x y : Int} (j : Nat) (hj : j < n * 2) : KnotC L j = KnotC (addKn L n x y) j := by
  obtain ⟨q, hq⟩ : ∃ q, j = q * 2 ∨ j = q * 2 + 1 := ⟨j / 2, by omega⟩
  rcases hq with rfl | rfl
  · rw [KnotC0, KnotC0]; unfold addKn; rw [if_neg (by omega)]
  · rw [KnotC1, KnotC1]; unfold addKn; rw [if_neg (by omega)]
theorem addKn_new {W : World} {B : Nat} {L : Nat → KnotD} {n : Nat} {x y : Int} {t : TypeId} (h : Blk W B t #[.int .i64 x, .int .i64 y]) : ∀ j, j < 2 → W.cell? ⟨B, j, none⟩ = some (KnotC (addKn L n x y) (n * 2 + j)) := fun j hj => by
  match j, hj with
  | 0, _ => rw [h.cell 0, Nat.add_zero, KnotC0]; simp [addKn]
  | 1, _ => rw [h.cell 1, KnotC1]; simp [addKn]
theorem knots_more {ws : List (List UInt8)} {k : Nat} {l : Nat → KnotD} {x y : Int} (h : KnotsTo ws k l) (hx : ws.getD k [] = (knotTx ⟨x, y⟩).data.toList) : KnotsTo ws (k + 1) (addKn l k x y) := fun j hj => by
  unfold addKn
  by_cases q : j = k
  · rw [if_pos q, q]; exact hx
  · rw [if_neg q]; exact h j (by omega)
/-- a word's cell in a list of texts of the call's own -/
theorem own_word {w : World} {base : Nat} {A : Option Addr} {ws : List (List UInt8)} {n : Nat} (h : Own w base 9 1 A (n + 1) (wdC ws)) : ∃ B, A = some ⟨B, 0, none⟩ ∧ B < w.heap.size ∧ ∀ (w' : World) (j : Nat), Below w.heap.size w w' → j < n + 1 → w'.cell? ⟨B, j, none⟩ = some (.string ⟨(ws.getD j []).toArray⟩) := by
  rcases h with ⟨_, h0⟩ | ⟨B, ms, h0, rfl, hB, hk, hms, hh⟩
  · omega
  refine ⟨B, rfl, hk.lt, fun w' j hb hj => ?_⟩
  have k := hk.below hb hk.lt
  rw [k.cell, arr_get _ _ _ (by omega), hh _ (by omega)]
  rfl
theorem word_size {s : ByteArray} {c : UInt8} {k : Nat} (hs : s.size ≤ 1048576) : (⟨((splitC c s.data.toList).getD k []).toArray⟩ : ByteArray).size ≤ 1048576 := by
  have := getD_le (c := c) s.data.toList k
  rw [list_len] at this
  show ((splitC c s.data.toList).getD k []).toArray.size ≤ _
  rw [List.size_toArray]
  omega
theorem number_eq (p : List UInt8) (hs : p.length ≤ 1048576) (w : World) :
    Calls Tryd.prog 22 #[.string ⟨p.toArray⟩] w fun e w' => e = .returned (.tuple #[.int .i64 (numV p), .bool (numOk p)]) ∧ w = w' := by
  have h := l01Number_eq ⟨p.toArray⟩ (by show p.toArray.size ≤ _; rw [List.size_toArray]; omega) w
  unfold NumR at h
  have eL : (⟨p.toArray⟩ : ByteArray).data.toList = p := by simp
  rw [eL] at h
  exact h
theorem parts_two {l : List (List UInt8)} (h : l.length = 2) : ∃ a b, l = [a, b] := by
  match l, h with
  | [a, b], _ => exact ⟨a, b, rfl⟩
set_option maxRecDepth 100000 in
set_option maxHeartbeats 4000000 in
theorem specReadCurve_any (s : ByteArray) (w : World) (hs : s.size ≤ 1048576) :
    Calls Tryd.prog 10 #[.string s] w fun e w' => RetRC s w w' e ∧ Below w.heap.size w w' := by
  obtain ⟨i0, hi, hz0, hz1, hz2⟩ := info_parts Tryd.infoKn
  have e32 : ((32 : UInt8).toNat : Int) = 32 := rfl
  have sp := l01Split_any s 32 hs w
  rw [e32] at sp
  have SP := Lib.hid sp
  clear sp e32
  go_enter Tryd.func10, Tryd.ntmps10
  go_wp2_with fail
  refine SP.out.mono ?_
  rintro e w1 ⟨⟨v1, rfl, row1, hl1⟩, hb1⟩
  clear SP
  obtain ⟨ws, hws⟩ : ∃ ws, splitC 32 s.data.toList = ws := ⟨_, rfl⟩
  rw [hws] at row1 hl1
  obtain ⟨A1, c1, rfl, _, own1, _⟩ := row1.own
  obtain ⟨M, hM⟩ : ∃ M, ws.length = M + 1 := by
    obtain ⟨a, t, e⟩ := splitC_cons 32 s.data.toList
    exact ⟨t.length, by rw [← hws, e]; rfl⟩
  rw [hM] at own1 hl1
  obtain ⟨B1, rfl, hB1, cw⟩ := own_word own1
  have CW := Lib.hid cw
  have WS := Lib.hid hws
  have HM := Lib.hid hM
  have sz1 := hb1.size
  clear cw own1 row1
  rw [hM]
  clear hws hM
  go_wp2_with fail
  generalize hV : World.alloc w1 _ = w2
  have hb2 : Below w1.heap.size w1 w2 := by rw [← hV]; exact (Below.refl _ _).alloc (Nat.le_refl _) _
  have r2 : Row w2 w1.heap.size 35 2 (.slice (some ⟨w1.heap.size, 0, none⟩) 0 0) 0 (KnotC (fun _ => ⟨0, 0⟩)) := by rw [← hV]; exact Row.empty w1 _ _ _ (Nat.le_refl _)
  clear hV
  go_loopw [5, 6, 7, 8, 9, 10, 11] (fun v i _ _ _ _ _ wr => ∃ (k : Nat) (l : Nat → KnotD), k ≤ M + 1 ∧ i = .int .i64 (k : Int) ∧ Row wr w1.heap.size 35 2 v k (KnotC l) ∧ KnotsTo ws k l ∧ Below w1.heap.size w1 wr) (fun _ i _ _ _ _ _ _ => M + 1 - (RowKit.intOf i).toNat)
  case atStart => exact ⟨0, _, Nat.zero_le _, rfl, r2, fun j hj => by omega, hb2⟩
  case round =>
    obtain ⟨k, l, hk, rfl, row, hkn, hbl⟩ := hrel
    have HKN := Lib.hid hkn
    clear hkn
    have bsz := hbl.size
    have hbw := hb1.trans (hbl.mono hb1.size)
    by_cases hlt : k < M + 1
    · have hlt' : (k : Int) < (M : Int) + 1 := by omega
      have cwk := CW.out wr k hbl hlt
      have bl1 : B1 < wr.heap.size := by omega
      obtain ⟨wd, hwd⟩ : ∃ wd, ws.getD k [] = wd := ⟨_, rfl⟩
      rw [hwd] at cwk
      have WD := Lib.hid hwd
      have hsz : (⟨wd.toArray⟩ : ByteArray).size ≤ 1048576 := by rw [← hwd, ← WS.out]; exact word_size hs
      clear hwd
      have e58 : ((58 : UInt8).toNat : Int) = 58 := rfl
      have sp := l01Split_any ⟨wd.toArray⟩ 58 hsz wr
      rw [e58] at sp
      have eL : (⟨wd.toArray⟩ : ByteArray).data.toList = wd := by simp
      rw [eL] at sp
      have SP := Lib.hid sp
      clear sp e58 eL
      go_wp2_with fail
      refine SP.out.mono ?_
      rintro e w3 ⟨⟨v3, rfl, row3, hl3⟩, hb3⟩
      clear SP
      have hbl3 := hbl.trans (hb3.mono hbl.size)
      have hbw3 := hb1.trans (hbl3.mono hb1.size)
      have bsz3 := hb3.size
      have HWD := Lib.hid (show (splitC 32 s.data.toList).getD k [] = wd by rw [WS.out]; exact WD.out)
      have hlen : k < (splitC 32 s.data.toList).length := by rw [WS.out, HM.out]; exact hlt
      obtain ⟨ps, hps⟩ : ∃ ps, splitC 58 wd = ps := ⟨_, rfl⟩
      rw [hps] at row3 hl3
      have lp : ∀ x ∈ ps, x.length ≤ 1048576 := fun x hx => by
        have := splitC_le (c := 58) wd x (by rw [hps]; exact hx)
        have h2 : wd.length ≤ 1048576 := by
          have : (⟨wd.toArray⟩ : ByteArray).size = wd.length := by show wd.toArray.size = _; rw [List.size_toArray]
          omega
        omega
      obtain ⟨A3, c3, rfl, _, own3, _⟩ := row3.own
      by_cases q2 : ps.length = 2
      · obtain ⟨p0, p1, rfl⟩ := parts_two q2
        have l0 := lp p0 (by simp)
        have l1 := lp p1 (by simp)
        have HPS := Lib.hid hps
        obtain ⟨B3, rfl, hB3, cw3⟩ := own_word (n := 1) own3
        have x0 := cw3 w3 0 (Below.refl _ _) (by omega)
        have x1 := cw3 w3 1 (Below.refl _ _) (by omega)
        simp only [List.getD_cons_zero, List.getD_cons_succ] at x0 x1
        have row4 := row.below hb3
        clear lp hps q2 cw3 own3 row3 hl3 row cwk
        go_wp2_with fail
        refine (number_eq p0 l0 _).mono ?_
        rintro e w4 ⟨rfl, rfl⟩
        go_wp2_with fail
        refine (number_eq p1 l1 _).mono ?_
        rintro e w4 ⟨rfl, rfl⟩
        by_cases hok : numOk p0 = true ∧ numOk p1 = true
        · obtain ⟨o0, o1⟩ := hok
          have KW := Lib.hid (word_knot HPS.out o0 o1)
          have HK2 := Lib.hid (knots_more HKN.out (WD.out.trans KW.out))
          rw [o0, o1]
          clear o0 o1 x0 x1
          generalize numV p0 = a0 at *
          generalize numV p1 = a1 at *
          have row7 := row4.congr (f' := KnotC (addKn l k a0 a1)) (fun j hj => addKn_old j hj)
          go_wp2_with (at_builtin; refine wpList_append_row rfl _ _ 25 rfl w1.heap.size 35 i0 _ 2 16 Tryd.underlying25 hi hz0 hz1 hz2 rfl (by decide) _ k (KnotC (addKn l k a0 a1)) rfl (row7.alloc _) w3.heap.size 1 rfl ?c1 (kn_one _ k) ?c3 ?c4 ?c5 ?_)
          case c1 => exact addKn_new (Blk.new w3 _ _)
          case c3 => omega
          case c4 => omega
          case c5 => first | omega | (simp; omega)
          intro v' w7 row8 hg7
          have s13 := hbl3.size
          have gw7 := Row.after (hbl3.alloc s13 _) (Nat.le_refl _) (by simp; omega) (row7.alloc _) hg7 row8
          clear hg7 row7 row4
          go_wp2_with fail
          go_roundw
          case rel => exact ⟨k + 1, _, by omega, by go_num, row8, HK2.out, gw7⟩
          case measure => simp [RowKit.intOf]; omega
        · have E := Lib.hid (show ∀ n l, ¬ CurIs s n l from fun n l h => by
            obtain ⟨q0, q1, e0, e1, e2⟩ := cur_word h hlen
            rw [HWD.out, HPS.out] at e0
            injection e0 with f0 f1
            injection f1 with f1 _
            subst f0; subst f1
            exact hok ⟨e1, e2⟩)
          have hno : (numOk p0 = false) ∨ (numOk p0 = true ∧ numOk p1 = false) := by
            cases h0 : numOk p0
            · exact .inl rfl
            · cases h1 : numOk p1
              · exact .inr ⟨rfl, rfl⟩
              · exact absurd ⟨h0, h1⟩ hok
          clear hok
          rcases hno with o0 | ⟨o0, o1⟩
          · rw [o0]
            go_wp2_with fail
            go_ret2
            exact ⟨retRC_no E.out, hbw3⟩
          · rw [o0, o1]
            go_wp2_with fail
            go_ret2
            exact ⟨retRC_no E.out, hbw3⟩
      · have E := Lib.hid (show ∀ n l, ¬ CurIs s n l from fun n l h => by
          obtain ⟨q0, q1, e0, _, _⟩ := cur_word h hlen
          rw [HWD.out, hps] at e0
          rw [e0] at q2
          exact q2 rfl)
        have nd : ((ps.length : Int) == 2) = false := beq_eq_false_iff_ne.2 (fun e => q2 (by omega))
        clear hps own3 row3 row cwk
        go_wp2_with fail
        go_ret2
        exact ⟨retRC_no E.out, hbw3⟩
    · obtain rfl : k = M + 1 := by omega
      have hlen : (splitC 32 s.data.toList).length = M + 1 := by rw [WS.out, HM.out]
      have TX := Lib.hid (show curveTx l (M + 1) = s by
        have := words_text (s := s) (l := l) (by rw [hlen, WS.out]; exact HKN.out)
        rw [hlen] at this
        exact this)
      have hM : M + 1 ≤ 1048576 := by
        have := curveTx_ge (l := l) (M + 1)
        rw [TX.out] at this
        omega
      obtain ⟨A5, c5, rfl, _, own5, hz5⟩ := row.own
      clear hlen
      go_wp2_with fail
      refine (l12Ok_any A5 (M + 1) c5 l _ hM own5.sl).mono ?_
      rintro e w6 ⟨rfl, hb6⟩
      have hbw6 := hbw.trans (hb6.mono hbw.size)
      cases q : curveOk (M + 1) l
      · have E := Lib.hid (show ∀ n l, ¬ CurIs s n l from fun n l' h => by
          obtain ⟨e1, e2⟩ := cur_uniq (by have := h.1.1; omega) (by omega) h.2 TX.out
          subst e1
          rw [curveOk_yes (curveOk_congr e2 h.1)] at q
          cases q)
        go_wp2_with fail
        go_ret2
        exact ⟨retRC_no E.out, hbw6⟩
      · have OK := Lib.hid (curveOk_of q)
        have own6 := (own5.below hb6).mono (base' := w.heap.size) sz1
        go_wp2_with fail
        go_ret2
        exact ⟨retRC_yes ⟨OK.out, TX.out⟩ own6 hz5, hbw6⟩
end Go.Proofs.YtjomlcjchndkeaaDoor
