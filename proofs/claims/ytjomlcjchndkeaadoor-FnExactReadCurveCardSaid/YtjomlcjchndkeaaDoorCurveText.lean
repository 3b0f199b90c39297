/- CurveText. Conditions: the slice reads as knots; the library's table of powers of ten lies. -/
import Derived.Test.YtjomlcjchndkeaaDoorText
import Derived.Test.YtjomlcjchndkeaaDoorCurve
import Derived.Test.YtjomlcjchndkeaaDoorCurveMath
import Derived.Test.YtjomlcjchndkeaaDoorShelfJ
import Derived.Test.YtjomlcjchndkeaaDoorTail
import Derived.Test.YtjomlcjchndkeaaDoorOwn
namespace Go.Ks
/-- the text of a knot -/
def knotTx (x : KnotD) : ByteArray := decB x.f0 ++ (⟨#[58]⟩ : ByteArray) ++ decB x.f1
/-- the text of the first k knots -/
def curveTx (l : Nat → KnotD) : Nat → ByteArray
  | 0 => ⟨#[]⟩
  | 1 => knotTx (l 0)
  | k + 2 => curveTx l (k + 1) ++ (⟨#[32]⟩ : ByteArray) ++ knotTx (l (k + 1))
theorem one_byte (x : UInt8) : (⟨#[x]⟩ : ByteArray).size = 1 := rfl
theorem no_byte : (⟨#[]⟩ : ByteArray).size = 0 := rfl
theorem knotTx_size {x : KnotD} (h0 : 0 ≤ x.f0 ∧ x.f0 ≤ 1000) (h1 : 0 ≤ x.f1 ∧ x.f1 ≤ 1000) : (knotTx x).size ≤ 43 := by
  have e0 := decB_size (n := x.f0) (by omega)
  have e1 := decB_size (n := x.f1) (by omega)
  unfold knotTx
  rw [ByteArray.size_append, ByteArray.size_append, one_byte]
  omega
theorem curveTx_size {l : Nat → KnotD} : ∀ k, (∀ j, j < k → (knotTx (l j)).size ≤ 43) → (curveTx l k).size ≤ 44 * k
  | 0, _ => by unfold curveTx; rw [no_byte]; omega
  | 1, h => by unfold curveTx; have := h 0 (by omega); omega
  | k + 2, h => by
    have ih := curveTx_size (k + 1) (fun j hj => h j (by omega))
    have h1 := h (k + 1) (by omega)
    unfold curveTx
    rw [ByteArray.size_append, ByteArray.size_append, one_byte]
    omega
/-- the words of a curve -/
def knotWords (l : Nat → KnotD) (n : Nat) : List ByteArray := (List.range n).map (fun j => knotTx (l j))
theorem join_snoc (a : List UInt8) (xs : List (List UInt8)) (y sep : List UInt8) : Lib.join (a :: xs ++ [y]) sep = Lib.join (a :: xs) sep ++ sep ++ y := by
  rw [List.cons_append, Lib.join_cons, Lib.join_cons]
  simp [Lib.joinTail]
theorem words_succ (l : Nat → KnotD) (n : Nat) : knotWords l (n + 1) = knotWords l n ++ [knotTx (l n)] := by simp [knotWords, List.range_succ]
theorem words_cons (l : Nat → KnotD) (n : Nat) : ∃ a xs, knotWords l (n + 1) = a :: xs := by
  unfold knotWords
  rw [List.range_succ_eq_map]
  exact ⟨_, _, rfl⟩
theorem join_curve (l : Nat → KnotD) : ∀ n, Lib.join ((knotWords l (n + 1)).map (·.data.toList)) [32] = (curveTx l (n + 1)).data.toList
  | 0 => by simp [knotWords, curveTx, Lib.join_one]
  | n + 1 => by
    have ih := join_curve l n
    obtain ⟨a, xs, hw⟩ := words_cons l n
    rw [words_succ l (n + 1), hw]
    rw [hw] at ih
    rw [List.map_append, List.map_cons, List.map_cons, List.map_nil, join_snoc]
    rw [List.map_cons] at ih
    rw [ih]
    rw [show curveTx l (n + 1 + 1) = curveTx l (n + 1) ++ (⟨#[32]⟩ : ByteArray) ++ knotTx (l (n + 1)) from rfl, ByteArray.data_append, ByteArray.data_append]
    simp
end Go.Ks
namespace Go.Proofs.YtjomlcjchndkeaaDoor
open Go.RowKit Go.Lib Go.Ks
noncomputable def mCT (n : Nat) (l : Nat → KnotD) : ByteArray := if curveOk n l = true then curveTx l n else ⟨#[]⟩
theorem b_cases (b : Bool) : b = false ∨ b = true := by cases b <;> simp
theorem empty_app (b : ByteArray) : (⟨#[]⟩ : ByteArray) ++ b = b := by
  apply ByteArray.ext
  rw [ByteArray.data_append]
  simp
set_option maxRecDepth 100000 in
set_option maxHeartbeats 2000000 in
theorem l12Text_any (A : Option Addr) (n c : Nat) (l : Nat → KnotD) (w : World) (ok : CurveOk n l) (hs : Sl w A (n * 2) (KnotC l)) :
    Calls Tryd.prog 15 #[.slice A n c] w fun e w' => e = .returned (.string (curveTx l n)) ∧ Below w.heap.size w w' := by
  have OK := Lib.hid ok
  have n16 : n ≤ 16 := ok.2.1
  have n16' : (n : Int) ≤ 16 := by omega
  have SZ := Lib.hid (fun k (hk : k ≤ n) => curveTx_size (l := l) k (fun j hj => knotTx_size (curve_in OK.out (k := j) (by omega)) (curve_out OK.out (k := j) (by omega))))
  clear ok
  go_enter Tryd.func15, Tryd.ntmps15
  go_wp2_with fail
  go_loopw [3, 4] (fun s i wr => ∃ k : Nat, k ≤ n ∧ i = .int .i64 (k : Int) ∧ s = .string (curveTx l k) ∧ Below w.heap.size w wr) (fun _ i _ => n - (RowKit.intOf i).toNat)
  case atStart => exact ⟨0, Nat.zero_le _, rfl, rfl, by repeat (first | with_reducible exact Below.refl _ _ | with_reducible assumption | with_reducible refine Below.setCell ?_ (by first | omega | (simp <;> omega)) _ | with_reducible refine Below.alloc ?_ (by first | omega | (simp <;> omega)) _ | with_reducible refine Below.drew ?_)⟩
  case round =>
    obtain ⟨k, hk, rfl, rfl, hbl⟩ := hrel
    have sz := SZ.out k hk
    by_cases hlt : k < n
    · obtain ⟨b, off, rfl, hb, hc⟩ := hs (by omega)
      have hbr : b < wr.heap.size := by have := hbl.size; omega
      have d0 : wr.cell? ⟨b, off + k * 2, none⟩ = some (.int .i64 (l k).f0) := by rw [hbl.cell (by exact hb), hc _ (by omega), KnotC0]
      have d1 : wr.cell? ⟨b, off + k * 2 + 1, none⟩ = some (.int .i64 (l k).f1) := by rw [hbl.cell (by exact hb), Nat.add_assoc, hc _ (by omega), KnotC1]
      clear hc
      obtain ⟨a1, a2⟩ := curve_in OK.out hlt
      obtain ⟨a3, a4⟩ := curve_out OK.out hlt
      have s1 := decB_size (n := (l k).f0) (by omega)
      have s2 := decB_size (n := (l k).f1) (by omega)
      by_cases k0 : k = 0
      · subst k0
        simp only [Nat.zero_mul, Nat.add_zero] at d0 d1
        rw [show ((0 : Nat) : Int) = 0 from rfl]
        have ET := Lib.hid (show curveTx l (0 + 1) = (⟨#[]⟩ : ByteArray) ++ (decB (l 0).f0 ++ (⟨#[58]⟩ : ByteArray) ++ decB (l 0).f1) from (empty_app _).symm)
        rw [show curveTx l 0 = (⟨#[]⟩ : ByteArray) from rfl]
        go_wp2_with fail
        refine wp_region_ext (by kernel_rfl) (by kernel_rfl) ?_
        repeat (go_big_quiet_step ((first | (go_at_call 27; exact quiet_ext (l01Dec_any _ (by omega) _)))))
        refine wpQuiet_nil ?_
        intro e3
        have hb3 := hbl.trans (e3.below.mono hbl.size)
        go_wp2_with fail
        go_roundw
        case rel => exact ⟨0 + 1, by omega, by go_num, by rw [ET.out] <;> rfl, hb3⟩
        case measure => simp [RowKit.intOf]; omega
      · obtain ⟨j, rfl⟩ : ∃ j, k = j + 1 := ⟨k - 1, by omega⟩
        have ET := Lib.hid (show curveTx l (j + 1 + 1) = curveTx l (j + 1) ++ (⟨#[32]⟩ : ByteArray) ++ (decB (l (j + 1)).f0 ++ (⟨#[58]⟩ : ByteArray) ++ decB (l (j + 1)).f1) from rfl)
        obtain ⟨T, hT⟩ : ∃ T, curveTx l (j + 1) = T := ⟨_, rfl⟩
        rw [hT] at sz ET ⊢
        clear hT
        have kp : (0 : Int) < ((j + 1 : Nat) : Int) := by omega
        go_wp2_with fail
        refine wp_region_ext (by kernel_rfl) (by kernel_rfl) ?_
        repeat (go_big_quiet_step ((first | (go_at_call 27; exact quiet_ext (l01Dec_any _ (by omega) _)))))
        refine wpQuiet_nil ?_
        intro e3
        have hb3 := hbl.trans (e3.below.mono hbl.size)
        go_wp2_with fail
        go_roundw
        case rel => exact ⟨j + 1 + 1, by omega, by go_num, by rw [ET.out] <;> rfl, hb3⟩
        case measure => simp [RowKit.intOf]; omega
    · obtain rfl : k = n := by omega
      go_wp2_with fail
      go_ret
      exact ⟨rfl, hbl⟩
set_option maxRecDepth 100000 in
set_option maxHeartbeats 2000000 in
theorem specCurveText_any (A : Option Addr) (n c : Nat) (l : Nat → KnotD) (w : World) (hn : n ≤ 1048576) (hs : Sl w A (n * 2) (KnotC l)) (_hg : ∀ k, k < n → KnotOk (l k)) :
    Calls Tryd.prog 6 #[.slice A n c] w fun e w' => e = .returned (.string (mCT n l)) ∧ Below w.heap.size w w' := by
  go_enter Tryd.func6, Tryd.ntmps6
  go_wp2_with fail
  refine (l12Ok_any A n c l _ hn hs).mono ?_
  rintro e w1 ⟨rfl, hb1⟩
  rcases b_cases (curveOk n l) with q | q
  · have E := Lib.hid (show mCT n l = ⟨#[]⟩ by unfold mCT; rw [q]; rfl)
    rw [q]
    go_wp2_with fail
    go_ret
    exact ⟨by rw [E.out] <;> rfl, hb1⟩
  · have E := Lib.hid (show mCT n l = curveTx l n by unfold mCT; rw [q]; rfl)
    have Q := Lib.hid (curveOk_of q)
    rw [q]
    clear q
    go_wp2_with fail
    refine (l12Text_any A n c l _ Q.out (hs.below hb1)).mono ?_
    rintro e w2 ⟨rfl, hb2⟩
    go_wp2_with fail
    go_ret
    exact ⟨by rw [E.out] <;> rfl, hb1.trans (hb2.mono hb1.size)⟩
theorem Tryd.infoStr : (Tryd.prog.info? 9).map (fun i => (i.zero, i.size, i.bytes)) = some (some (.string ⟨#[]⟩), 1, 16) := by kernel_rfl
/-- the words written so far -/
def wordC (l : Nat → KnotD) (k : Nat) (j : Nat) : Value := if j < k then .string (knotTx (l j)) else .string ⟨#[]⟩
theorem word_step {l : Nat → KnotD} {k m : Nat} {w : World} {B : Nat} {t : TypeId} (h : Blk w B t (arr m (wordC l k))) : Blk (w.setCell ⟨B, k, none⟩ (.string (knotTx (l k)))) B t (arr m (wordC l (k + 1))) := by
  have h2 := h.set_ k (.string (knotTx (l k)))
  rw [arr_set] at h2
  exact h2.congr (fun j _ => by
    unfold wordC
    by_cases e : j = k
    · subst e; rw [if_pos rfl, if_pos (by omega)]
    · rw [if_neg e]
      by_cases q : j < k
      · rw [if_pos q, if_pos (by omega)]
      · rw [if_neg q, if_neg (by omega)])
theorem made_words (l : Nat → KnotD) (n : Nat) : madeCells (Value.string ⟨#[]⟩).cells (n * 1) = arr n (wordC l 0) := by
  rw [made_arr, Nat.mul_one]
  apply arr_ext
  intro j _
  have hj : j % 1 = 0 := Nat.mod_one j
  simp only [Value.cells, wordC]
  rw [if_neg (by omega)]
  show #[Value.string ⟨#[]⟩][j % 1]! = _
  rw [hj]
  rfl
set_option maxRecDepth 100000 in
set_option maxHeartbeats 2000000 in
theorem implCurveText_any (A : Option Addr) (n c : Nat) (l : Nat → KnotD) (w : World) (hn : n ≤ 1048576) (hs : Sl w A (n * 2) (KnotC l)) (hg : ∀ k, k < n → KnotOk (l k)) (hT : Tab w) :
    Calls Tryd.prog 8 #[.slice A n c] w fun e w' => e = .returned (.string (mCT n l)) ∧ Below w.heap.size w w' := by
  have TT := Lib.hid hT
  have HG := Lib.hid hg
  clear hT hg
  go_enter Tryd.func8, Tryd.ntmps8
  go_wp2_with fail
  refine (validCurve_any A n c l _ hn hs HG.out).mono ?_
  rintro e w1 ⟨rfl, hb1⟩
  rcases b_cases (curveOk n l) with q | q
  · have E := Lib.hid (show mCT n l = ⟨#[]⟩ by unfold mCT; rw [q]; rfl)
    rw [q]
    go_wp2_with fail
    go_ret
    exact ⟨by rw [E.out] <;> rfl, hb1⟩
  · have E := Lib.hid (show mCT n l = curveTx l n by unfold mCT; rw [q]; rfl)
    have OK := Lib.hid (curveOk_of q)
    have n16 : n ≤ 16 := OK.out.2.1
    have n2 : 2 ≤ n := OK.out.1
    have n16' : (n : Int) ≤ 16 := by omega
    obtain ⟨i0, hi, hz0, hz1, hz2⟩ := info_parts Tryd.infoStr
    have hmk := fun W => run_make_rowN (P := Tryd.prog) 38 9 i0 _ Tryd.underlying38 hi hz0 .i64 .i64 n n (Nat.le_refl _) (by rw [hz2]; omega) (by omega) W
    rw [hz1, made_words l n] at hmk
    rw [q]
    clear q hi hz0 hz1 hz2
    go_wp2_with fail
    generalize hV : World.alloc _ _ = w2
    have hb2 : Below w1.heap.size w1 w2 := by rw [← hV]; exact (Below.refl _ _).alloc (Nat.le_refl _) _
    have k2 : Blk w2 w1.heap.size 9 (arr n (wordC l 0)) := by rw [← hV]; exact Blk.new w1 _ _
    have HB := hb1.trans (hb2.mono hb1.size)
    have e1 := hb1.size
    clear hV hmk hb2
    go_loopw [14] (fun i wr => ∃ k : Nat, k ≤ n ∧ i = .int .i64 (k : Int) ∧ Blk wr w1.heap.size 9 (arr n (wordC l k)) ∧ Below w.heap.size w wr) (fun i _ => n - (RowKit.intOf i).toNat)
    case atStart => exact ⟨0, Nat.zero_le _, rfl, k2, HB⟩
    case round =>
      obtain ⟨k, hk, rfl, kw, hbl⟩ := hrel
      have kl := kw.lt
      by_cases hlt : k < n
      · obtain ⟨b, off, rfl, hb, hc⟩ := hs (by omega)
        have hbr : b < wr.heap.size := by have := hbl.size; omega
        have d0 : wr.cell? ⟨b, off + k * 2, none⟩ = some (.int .i64 (l k).f0) := by rw [hbl.cell (by exact hb), hc _ (by omega), KnotC0]
        have d1 : wr.cell? ⟨b, off + k * 2 + 1, none⟩ = some (.int .i64 (l k).f1) := by rw [hbl.cell (by exact hb), Nat.add_assoc, hc _ (by omega), KnotC1]
        clear hc
        obtain ⟨a1, a2⟩ := curve_in OK.out hlt
        obtain ⟨a3, a4⟩ := curve_out OK.out hlt
        have s1 := decB_size (n := (l k).f0) (by omega)
        have s2 := decB_size (n := (l k).f1) (by omega)
        go_wp2_with fail
        generalize hV : World.alloc _ _ = w3
        have hb3 : Below wr.heap.size wr w3 := by rw [← hV]; exact (Below.refl _ _).alloc (Nat.le_refl _) _
        have x3 : Blk w3 wr.heap.size 35 #[.int .i64 (l k).f0, .int .i64 (l k).f1] := by rw [← hV]; exact Blk.new wr _ _
        clear hV d0 d1
        have kw3 := kw.below hb3 kw.lt
        have HB3 := hbl.trans (hb3.mono hbl.size)
        have T3 := Lib.hid (TT.out.below HB3)
        have x0 := x3.cell 0
        have x1 := x3.cell 1
        simp at x0 x1
        have xl := x3.lt
        have kt := kw3.lt
        refine wp_region_ext_tail 2 10 (by kernel_rfl) (by kernel_rfl) (fun d _ _ _ _ h => by cases d <;> exact h) ?_
        simp only [List.take_succ_cons, List.take_zero, List.drop_succ_cons, List.drop_zero]
        repeat (go_big_quiet_step ((go_at_call 18; exact quiet_ext (decimal_any _ (by omega) _ (T3.out.below (ExtW.below _))))))
        refine wpQuiet_nil ?_
        intro e4
        have hb4 := e4.below
        have kw4 := kw3.below hb4 kw3.lt
        have HB4 := HB3.trans (hb4.mono HB3.size)
        have kt4 := kw4.lt
        have z4 := kw4.cell k
        rw [arr_get _ _ _ hlt] at z4
        have o4 := kw4.frozen k
        have st := word_step kw4
        have sb := HB4.setCell (p := ⟨w1.heap.size, k, none⟩) e1 (.string (knotTx (l k)))
        have ET := Lib.hid (show knotTx (l k) = decB (l k).f0 ++ (⟨#[58]⟩ : ByteArray) ++ decB (l k).f1 from rfl)
        rw [ET.out] at st sb
        go_wp2_with fail
        go_roundw
        case rel => exact ⟨k + 1, by omega, by go_num, st, sb⟩
        case measure => simp [RowKit.intOf]; omega
      · obtain rfl : k = n := by omega
        go_wp2_with fail
        obtain ⟨m, rfl⟩ : ∃ m, k = m + 1 := ⟨k - 1, by omega⟩
        have JN := join_curve l m
        have SZ := curveTx_size (l := l) (m + 1) (fun j hj => knotTx_size (curve_in OK.out hj) (curve_out OK.out hj))
        have hlen : (knotWords l (m + 1)).length = m + 1 := by simp [knotWords]
        have hj := Tryd.strings_Join w1.heap.size 0 (m + 1) (knotWords l (m + 1)) ⟨#[32]⟩ wr (fun j z hz => by
          have hjl : j < m + 1 := by
            have := (List.getElem?_eq_some_iff.1 hz).1
            omega
          rw [Nat.zero_add, kw.cell, arr_get _ _ _ hjl]
          unfold wordC
          rw [if_pos hjl]
          simp [knotWords, hjl] at hz
          rw [hz]) kw.lt (by omega) (by omega) (by
            rw [JN]
            simp only [Array.length_toList]
            show (curveTx l (m + 1)).size ≤ _
            omega)
        rw [hlen, JN] at hj
        refine hj.mono ?_
        rintro e w6 ⟨rfl, hb6⟩
        go_wp2_with fail
        go_ret
        exact ⟨by rw [E.out] <;> rfl, hbl.trans (hb6.mono hbl.size)⟩
end Go.Proofs.YtjomlcjchndkeaaDoor
