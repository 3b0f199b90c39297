/- ReadCurve. Conditions: the size of a text; the library's variables lie. -/
import Derived.Test.YthjllledhcfnhaaGreatDoorReadSplit
import Derived.Test.YthjllledhcfnhaaGreatDoorCurveText
import Derived.Test.YthjllledhcfnhaaGreatDoorCurve
namespace Go.Ks.Tx
open Go.RowKit Go.Lib
theorem knot_list (x : KnotD) : (knotTx x).data.toList = Lib.itoa x.f0 ++ 58 :: Lib.itoa x.f1 := by
  unfold knotTx decB
  rw [ByteArray.data_append, ByteArray.data_append]
  simp
theorem itoa_chars (n : Int) : ∀ b ∈ Lib.itoa n, b = 45 ∨ isDg b := fun b hb => by
  unfold Lib.itoa at hb
  split at hb
  · rcases List.mem_cons.1 hb with h | h
    · exact .inl h
    · exact .inr (dd_dg _ b h)
  · exact .inr (dd_dg _ b hb)
theorem itoa_not {c : UInt8} (h : c ≠ 45) (h2 : ¬ isDg c) (n : Int) : c ∉ Lib.itoa n := fun hc => by
  rcases itoa_chars n c hc with e | e
  · exact h e
  · exact h2 e
theorem itoa_58 (n : Int) : (58 : UInt8) ∉ Lib.itoa n := itoa_not (by decide) (by decide) n
theorem itoa_32 (n : Int) : (32 : UInt8) ∉ Lib.itoa n := itoa_not (by decide) (by decide) n
theorem itoa_ne (n : Int) : Lib.itoa n ≠ [] := fun e => by
  unfold Lib.itoa at e
  split at e
  · cases e
  · obtain ⟨b, l, h, _⟩ := dd_ne n.toNat
    rw [h] at e; cases e
theorem knot_32 (x : KnotD) : (32 : UInt8) ∉ (knotTx x).data.toList := fun h => by
  rw [knot_list] at h
  rcases List.mem_append.1 h with h | h
  · exact itoa_32 _ h
  · rcases List.mem_cons.1 h with h | h
    · revert h; decide
    · exact itoa_32 _ h
theorem knot_split (x : KnotD) : splitC 58 (knotTx x).data.toList = [Lib.itoa x.f0, Lib.itoa x.f1] := by
  rw [knot_list, splitC_app (itoa_58 _), splitC_none (itoa_58 _)]
theorem knot_ne (x : KnotD) : (knotTx x).data.toList ≠ [] := fun e => by
  rw [knot_list] at e
  simp at e
theorem knot_inj {x y : KnotD} (h : (knotTx x).data.toList = (knotTx y).data.toList) : x = y := by
  have hx := knot_split x
  rw [h, knot_split y] at hx
  injection hx with h1 h2
  injection h2 with h2 _
  cases x; cases y
  have e1 := itoa_inj h1
  have e2 := itoa_inj h2
  simp only at e1 e2
  rw [e1, e2]
/-- the words of a curve's text -/
theorem curve_words (l : Nat → KnotD) (n : Nat) : splitC 32 (curveTx l (n + 1)).data.toList = (knotWords l (n + 1)).map (·.data.toList) := by
  rw [← join_curve]
  obtain ⟨a, xs, hw⟩ := words_cons l n
  have hall : ∀ y ∈ knotWords l (n + 1), (32 : UInt8) ∉ y.data.toList := fun y hy => by
    unfold knotWords at hy
    obtain ⟨j, _, rfl⟩ := List.mem_map.1 hy
    exact knot_32 _
  rw [hw] at hall ⊢
  rw [List.map_cons]
  refine splitC_join (hall a (by simp)) (fun y hy => ?_)
  obtain ⟨z, hz, rfl⟩ := List.mem_map.1 hy
  exact hall z (by simp [hz])
theorem words_get (l : Nat → KnotD) {n j : Nat} (h : j < n) : ((knotWords l n).map (·.data.toList)).getD j [] = (knotTx (l j)).data.toList := by
  unfold knotWords
  rw [List.getD_eq_getElem?_getD]
  simp [h]
theorem words_len (l : Nat → KnotD) (n : Nat) : ((knotWords l n).map (·.data.toList)).length = n := by simp [knotWords]
/-- the curve with a text -/
def CurIs (s : ByteArray) (n : Nat) (l : Nat → KnotD) : Prop := CurveOk n l ∧ curveTx l n = s
theorem cur_words {s : ByteArray} {n : Nat} {l : Nat → KnotD} (hn : 1 ≤ n) (h : curveTx l n = s) : (splitC 32 s.data.toList).length = n ∧ ∀ j, j < n → (splitC 32 s.data.toList).getD j [] = (knotTx (l j)).data.toList := by
  obtain ⟨m, rfl⟩ : ∃ m, n = m + 1 := ⟨n - 1, by omega⟩
  rw [← h, curve_words]
  exact ⟨words_len _ _, fun j hj => words_get l hj⟩
theorem words_eq {ws : List (List UInt8)} {l : Nat → KnotD} (h : ∀ j, j < ws.length → ws.getD j [] = (knotTx (l j)).data.toList) : ws = (knotWords l ws.length).map (·.data.toList) := by
  apply List.ext_getElem?
  intro j
  by_cases hj : j < ws.length
  · have h1 := h j hj
    have h2 := words_get l hj
    rw [List.getD_eq_getElem?_getD, List.getElem?_eq_getElem hj] at h1
    rw [List.getD_eq_getElem?_getD, List.getElem?_eq_getElem (by rw [words_len]; exact hj)] at h2
    rw [List.getElem?_eq_getElem hj, List.getElem?_eq_getElem (by rw [words_len]; exact hj)]
    simp only [Option.getD_some] at h1 h2
    rw [h1, h2]
  · rw [List.getElem?_eq_none (by omega), List.getElem?_eq_none (by rw [words_len]; omega)]
theorem words_text {s : ByteArray} {l : Nat → KnotD} (h : ∀ j, j < (splitC 32 s.data.toList).length → (splitC 32 s.data.toList).getD j [] = (knotTx (l j)).data.toList) : curveTx l (splitC 32 s.data.toList).length = s := by
  have hw := words_eq h
  obtain ⟨a, t, e⟩ := splitC_cons 32 s.data.toList
  obtain ⟨m, hm⟩ : ∃ m, (splitC 32 s.data.toList).length = m + 1 := ⟨t.length, by rw [e]; rfl⟩
  have hj := join_splitC 32 s.data.toList
  rw [hw, hm, join_curve] at hj
  rw [hm]
  apply ByteArray.ext
  apply Array.ext'
  exact hj
theorem cur_uniq {s : ByteArray} {n n' : Nat} {l l' : Nat → KnotD} (hn : 1 ≤ n) (hn' : 1 ≤ n') (h : curveTx l n = s) (h' : curveTx l' n' = s) : n = n' ∧ ∀ j, j < n → l j = l' j := by
  obtain ⟨a, b⟩ := cur_words hn h
  obtain ⟨a', b'⟩ := cur_words hn' h'
  have e : n = n' := a.symm.trans a'
  refine ⟨e, fun j hj => knot_inj ?_⟩
  rw [← b j hj, b' j (by omega)]
theorem curveOk_congr {n : Nat} {l l' : Nat → KnotD} (h : ∀ j, j < n → l j = l' j) (ok : CurveOk n l) : CurveOk n l' := by
  obtain ⟨a, b, c, d, e⟩ := ok
  refine ⟨a, b, by rw [← h 0 (by omega)]; exact c, by rw [← h (n - 1) (by omega)]; exact d, fun k hk => ?_⟩
  obtain ⟨e1, e2⟩ := e k hk
  rw [h k hk] at e1 e2
  refine ⟨e1, fun h0 => ?_⟩
  have := e2 h0
  rw [h (k - 1) (by omega)] at this
  exact this
open Classical in
noncomputable def rcB (s : ByteArray) : Bool := if ∃ p : Nat × (Nat → KnotD), CurIs s p.1 p.2 then true else false
open Classical in
noncomputable def rcP (s : ByteArray) : Nat × (Nat → KnotD) := if h : ∃ p : Nat × (Nat → KnotD), CurIs s p.1 p.2 then h.choose else (0, fun _ => ⟨0, 0⟩)
noncomputable def mReadCurveN (s : ByteArray) : Nat := (rcP s).1
noncomputable def mReadCurveL (s : ByteArray) : Nat → KnotD := (rcP s).2
theorem rc_no {s : ByteArray} (h : ∀ n l, ¬ CurIs s n l) : rcB s = false ∧ mReadCurveN s = 0 := by
  have hx : ¬ ∃ p : Nat × (Nat → KnotD), CurIs s p.1 p.2 := fun ⟨p, hp⟩ => h _ _ hp
  refine ⟨if_neg hx, ?_⟩
  unfold mReadCurveN rcP
  rw [dif_neg hx]
theorem rc_yes {s : ByteArray} {n : Nat} {l : Nat → KnotD} (h : CurIs s n l) : rcB s = true ∧ mReadCurveN s = n ∧ ∀ j, j < n → mReadCurveL s j = l j := by
  have hx : ∃ p : Nat × (Nat → KnotD), CurIs s p.1 p.2 := ⟨(n, l), h⟩
  have e : rcP s = hx.choose := by unfold rcP; rw [dif_pos hx]
  have hc := hx.choose_spec
  rw [← e] at hc
  obtain ⟨e1, e2⟩ := cur_uniq (by have := hc.1.1; omega) (by have := h.1.1; omega) hc.2 h.2
  exact ⟨if_pos hx, e1, fun j hj => e2 j (by omega)⟩
theorem mReadCurve_len (s : ByteArray) : mReadCurveN s ≤ 1048576 := by
  by_cases hx : ∃ p : Nat × (Nat → KnotD), CurIs s p.1 p.2
  · obtain ⟨p, hp⟩ := hx
    rw [(rc_yes hp).2.1]
    have := hp.1.2.1
    omega
  · rw [(rc_no (fun n l h => hx ⟨(n, l), h⟩)).2]; omega
/-- a word that is a knot's text -/
theorem word_knot {w p0 p1 : List UInt8} (h : splitC 58 w = [p0, p1]) (h0 : numOk p0 = true) (h1 : numOk p1 = true) : w = (knotTx ⟨numV p0, numV p1⟩).data.toList := by
  have hj := join_splitC 58 w
  rw [h, Lib.join_cons] at hj
  rw [knot_list, (num_of h0).2, (num_of h1).2, ← hj]
  simp [Lib.joinTail]
theorem knot_word {x : KnotD} {w : List UInt8} (h : w = (knotTx x).data.toList) (h0 : 0 ≤ x.f0 ∧ x.f0 ≤ 1000) (h1 : 0 ≤ x.f1 ∧ x.f1 ≤ 1000) : ∃ p0 p1, splitC 58 w = [p0, p1] ∧ numOk p0 = true ∧ numOk p1 = true ∧ w = p0 ++ 58 :: p1 ∧ (58 : UInt8) ∉ p0 ∧ x = ⟨numV p0, numV p1⟩ := by
  have n0 : IsNum (Lib.itoa x.f0) x.f0 := ⟨by omega, rfl⟩
  have n1 : IsNum (Lib.itoa x.f1) x.f1 := ⟨by omega, rfl⟩
  exact ⟨_, _, by rw [h, knot_split], (num_yes n0).1, (num_yes n1).1, by rw [h, knot_list], itoa_58 _, by rw [(num_yes n0).2, (num_yes n1).2]⟩
theorem cur_word {s : ByteArray} {n : Nat} {l : Nat → KnotD} (h : CurIs s n l) {k : Nat} (hk : k < (splitC 32 s.data.toList).length) : ∃ p0 p1, splitC 58 ((splitC 32 s.data.toList).getD k []) = [p0, p1] ∧ numOk p0 = true ∧ numOk p1 = true := by
  obtain ⟨a, b⟩ := cur_words (by have := h.1.1; omega) h.2
  obtain ⟨p0, p1, e0, e1, e2, _⟩ := knot_word (b k (by omega)) (curve_in h.1 (by omega)) (curve_out h.1 (by omega))
  exact ⟨p0, p1, e0, e1, e2⟩
theorem splitC_le {c : UInt8} : ∀ (l : List UInt8), ∀ x ∈ splitC c l, x.length ≤ l.length
  | [], x, h => by simp [splitC] at h; subst h; simp
  | b :: l, x, h => by
    obtain ⟨y, t, e⟩ := splitC_cons c l
    rw [splitC] at h
    split at h
    · rcases List.mem_cons.1 h with rfl | h
      · simp
      · have := splitC_le l x h
        rw [List.length_cons]; omega
    · rw [e] at h
      rcases List.mem_cons.1 h with rfl | h
      · have := splitC_le (c := c) l y (by rw [e]; simp)
        simp only [List.headD_cons, List.length_cons]; omega
      · have := splitC_le (c := c) l x (by rw [e]; exact List.mem_cons_of_mem _ h)
        rw [List.length_cons]; omega
theorem getD_le {c : UInt8} (l : List UInt8) (k : Nat) : ((splitC c l).getD k []).length ≤ l.length := by
  rw [List.getD_eq_getElem?_getD]
  cases h : (splitC c l)[k]? with
  | none => simp
  | some x => exact splitC_le l x (List.mem_of_getElem? h)
theorem curveTx_ge {l : Nat → KnotD} : ∀ k, k ≤ (curveTx l k).size
  | 0 => Nat.zero_le _
  | 1 => by
    show 1 ≤ (knotTx (l 0)).size
    unfold knotTx
    rw [ByteArray.size_append, ByteArray.size_append, one_byte]
    omega
  | k + 2 => by
    have ih := curveTx_ge (l := l) (k + 1)
    unfold curveTx
    rw [ByteArray.size_append, ByteArray.size_append, one_byte]
    omega
/-- knots read so far -/
def KnotsTo (ws : List (List UInt8)) (k : Nat) (l : Nat → KnotD) : Prop := ∀ j, j < k → ws.getD j [] = (knotTx (l j)).data.toList
end Go.Ks.Tx
namespace Go.Proofs.YthjllledhcfnhaaGreatDoor.Tx
open Go.RowKit Go.Lib Go.Ks Go.Ks.Tx
/-- what a reader of curves leaves -/
def RetRC (s : ByteArray) (w w' : World) (e : Ending) : Prop :=
  ∃ (A : Option Addr) (c : Nat), e = .returned (.tuple #[.slice A (mReadCurveN s) c, .bool (rcB s)]) ∧ Own w' w.heap.size 76 2 A (mReadCurveN s) (KnotC (mReadCurveL s)) ∧ (A = none → c = 0)
theorem retRC_no {s : ByteArray} {w w' : World} (h : ∀ n l, ¬ CurIs s n l) : RetRC s w w' (.returned (.tuple #[.slice none 0 0, .bool false])) := by
  obtain ⟨e1, e2⟩ := rc_no h
  refine ⟨none, 0, by rw [e1, e2], ?_, fun _ => rfl⟩
  rw [e2]
  exact Own.nil _ _ _ _ _
theorem retRC_yes {s : ByteArray} {w w' : World} {n c : Nat} {A : Option Addr} {l : Nat → KnotD} (h : CurIs s n l) (ho : Own w' w.heap.size 76 2 A n (KnotC l)) (hz : A = none → c = 0) : RetRC s w w' (.returned (.tuple #[.slice A n c, .bool true])) := by
  obtain ⟨e1, e2, e3⟩ := rc_yes h
  refine ⟨A, c, by rw [e1, e2], ?_, hz⟩
  rw [e2]
  refine ho.congr (fun j hj => ?_)
  obtain ⟨q, hq⟩ : ∃ q, j = q * 2 ∨ j = q * 2 + 1 := ⟨j / 2, by omega⟩
  rcases hq with rfl | rfl
  · rw [KnotC0, KnotC0, e3 q (by omega)]
  · rw [KnotC1, KnotC1, e3 q (by omega)]
theorem Tryz.infoKn : (Tryz.prog.info? 76).map (fun i => (i.zero, i.size, i.bytes)) = some (some (.agg #[.int .i64 0, .int .i64 0]), 2, 16) := by kernel_rfl
theorem kn_one (l : Nat → KnotD) (n j : Nat) (hj : j < 2) : (KnotC l (n * 2 + j)).oneCell' = true := by
  match j, hj with
  | 0, _ => rw [Nat.add_zero, KnotC0]; rfl
  | 1, _ => rw [KnotC1]; rfl
/-- one knot more -/
def addKn (L : Nat → KnotD) (n : Nat) (x y : Int) : Nat → KnotD := fun j => if j = n then ⟨x, y⟩ else L j
theorem addKn_old {L : Nat → KnotD} {n : Nat} {x y : Int} (j : Nat) (hj : j < n * 2) : KnotC L j = KnotC (addKn L n x y) j := by
  obtain ⟨q, hq⟩ : ∃ q, j = q * 2 ∨ j = q * 2 + 1 := ⟨j / 2, by omega⟩
  rcases hq with rfl | rfl
  · rw [KnotC0, KnotC0]; unfold addKn; rw [if_neg (by omega)]
  · rw [KnotC1, KnotC1]; unfold addKn; rw [if_neg (by omega)]
theorem addKn_new {W : World} {B : Nat} {L : Nat → KnotD} {n : Nat} {x y : Int} {t : TypeId} (h : Blk W B t #[.int .i64 x, .int .i64 y]) : ∀ j, j < 2 → W.cell? ⟨B, j, none⟩ = some (KnotC (addKn L n x y) (n * 2 + j)) := fun j hj => by
  match j, hj with
  | 0, _ => rw [h.cell 0, Nat.add_zero, KnotC0]; simp [addKn]
  | 1, _ => rw [h.cell 1, KnotC1]; simp [addKn]
theorem knots_more {ws : List (List UInt8)} {k : Nat} {l : Nat → KnotD} {x y : Int} (h : KnotsTo ws k l) (hx : ws.getD k [] = (knotTx ⟨x, y⟩).data.toList) : KnotsTo ws (k + 1) (addKn l k x y) := fun j hj => by
  unfold addKn
  by_cases q : j = k
  · rw [if_pos q, q]; exact hx
  · rw [if_neg q]; exact h j (by omega)
/-- a word's cell in a list of texts of the call's own -/
theorem own_word {w : World} {base : Nat} {A : Option Addr} {ws : List (List UInt8)} {n : Nat} (h : Own w base 9 1 A (n + 1) (wdC ws)) : ∃ B, A = some ⟨B, 0, none⟩ ∧ B < w.heap.size ∧ ∀ (w' : World) (j : Nat), Below w.heap.size w w' → j < n + 1 → w'.cell? ⟨B, j, none⟩ = some (.string ⟨(ws.getD j []).toArray⟩) := by
  rcases h with ⟨_, h0⟩ | ⟨B, ms, h0, rfl, hB, hk, hms, hh⟩
  · omega
  refine ⟨B, rfl, hk.lt, fun w' j hb hj => ?_⟩
  have k := hk.below hb hk.lt
  rw [k.cell, arr_get _ _ _ (by omega), hh _ (by omega)]
  rfl
theorem word_size {s : ByteArray} {c : UInt8} {k : Nat} (hs : s.size ≤ 1048576) : (⟨((splitC c s.data.toList).getD k []).toArray⟩ : ByteArray).size ≤ 1048576 := by
  have := getD_le (c := c) s.data.toList k
  rw [list_len] at this
  show ((splitC c s.data.toList).getD k []).toArray.size ≤ _
  rw [List.size_toArray]
  omega
theorem parts_two {l : List (List UInt8)} (h : l.length = 2) : ∃ a b, l = [a, b] := by
  match l, h with
  | [a, b], _ => exact ⟨a, b, rfl⟩
end Go.Proofs.YthjllledhcfnhaaGreatDoor.Tx
