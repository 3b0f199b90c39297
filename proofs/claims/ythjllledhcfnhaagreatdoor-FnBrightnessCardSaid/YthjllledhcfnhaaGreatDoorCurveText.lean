/- CurveText. Conditions: the slice reads as knots; the library's table of powers of ten lies. -/
import Derived.Test.YthjllledhcfnhaaGreatDoorText
import Derived.Test.YthjllledhcfnhaaGreatDoorCurve
import Derived.Test.YthjllledhcfnhaaGreatDoorCurveMath
import Derived.Test.YthjllledhcfnhaaGreatDoorTail
import Derived.Test.YthjllledhcfnhaaGreatDoorOwn
import Derived.Shelf.Strings.OnBuilder
import Derived.Test.YthjllledhcfnhaaGreatDoorProg
namespace Go.Proofs
open Go.Shelf
def Tryz.lays156_ren : Go.Shelf.Ren := ⟨fun | 156 => 43 | 165 => 81 | 166 => 82 | 169 => 83 | 240 => 111 | 241 => 112 | 276 => 143 | 277 => 144 | n => n, fun | 31 => 69 | 9 => 9 | 3 => 3 | 4 => 4 | 0 => 0 | 20 => 20 | 72 => 114 | 76 => 118 | 70 => 112 | 37 => 22 | 75 => 117 | 127 => 145 | 164 => 164 | 5 => 5 | 80 => 120 | n => n, fun | n => n⟩
theorem Tryz.lays156 : Go.Proofs.Lays.n156 Tryz.prog Tryz.lays156_ren := {
  mixed := by kernel_rfl
  f156 := Tryz.func43.trans (congrArg some (by kernel_rfl))
  f165 := Tryz.func81.trans (congrArg some (by kernel_rfl))
  f166 := Tryz.func82.trans (congrArg some (by kernel_rfl))
  f169 := Tryz.func83.trans (congrArg some (by kernel_rfl))
  f240 := Tryz.func111.trans (congrArg some (by kernel_rfl))
  f241 := Tryz.func112.trans (congrArg some (by kernel_rfl))
  f276 := Tryz.func143.trans (congrArg some (by kernel_rfl))
  f277 := Tryz.func144.trans (congrArg some (by kernel_rfl))
  t0 := Tryz.underlying0
  a0 := Tryz.isAgg0
  z0 := Tryz.sizeOf0
  v0 := Tryz.zeroValue0
  t3 := Tryz.underlying3
  a3 := Tryz.isAgg3
  z3 := Tryz.sizeOf3
  v3 := Tryz.zeroValue3
  t4 := Tryz.underlying4
  a4 := Tryz.isAgg4
  z4 := Tryz.sizeOf4
  v4 := Tryz.zeroValue4
  t9 := Tryz.underlying9
  a9 := Tryz.isAgg9
  z9 := Tryz.sizeOf9
  v9 := Tryz.zeroValue9
  t20 := Tryz.underlying20
  a20 := Tryz.isAgg20
  z20 := Tryz.sizeOf20
  v20 := Tryz.zeroValue20
  t31 := Tryz.underlying69
  a31 := Tryz.isAgg69
  z31 := Tryz.sizeOf69
  v31 := Tryz.zeroValue69
  t37 := Tryz.underlying22
  a37 := Tryz.isAgg22
  z37 := Tryz.sizeOf22
  v37 := Tryz.zeroValue22
  t70 := Tryz.underlying112
  a70 := Tryz.isAgg112
  z70 := Tryz.sizeOf112
  v70 := Tryz.zeroValue112
  t72 := Tryz.underlying114
  a72 := Tryz.isAgg114
  z72 := Tryz.sizeOf114
  v72 := Tryz.zeroValue114
  t75 := Tryz.underlying117
  a75 := Tryz.isAgg117
  z75 := Tryz.sizeOf117
  v75 := Tryz.zeroValue117
  t76 := Tryz.underlying118
  a76 := Tryz.isAgg118
  z76 := Tryz.sizeOf118
  v76 := Tryz.zeroValue118
  t127 := Tryz.underlying145
  a127 := Tryz.isAgg145
  z127 := Tryz.sizeOf145
  v127 := Tryz.zeroValue145
  t164 := Tryz.underlying164
  a164 := Tryz.isAgg164
  z164 := Tryz.sizeOf164
  v164 := Tryz.zeroValue164 }
theorem Tryz.Builder_Extra_156 : Builder.Extra Tryz.prog Tryz.lays156_ren := {
  sizeBuilder := by kernel_rfl
  liesBuilder := by kernel_rfl
  t5 := Tryz.underlying5
  a5 := Tryz.isAgg5
  z5 := Tryz.sizeOf5
  v5 := Tryz.zeroValue5
  infoByte := by kernel_rfl
  cellsByte := by kernel_rfl
  sizeByte := by kernel_rfl
  neB5 := by decide }
open Go.RowKit in
/-- No element: the empty string; the world is as it was. (Whatever the slice's address and capacity: a nil slice too.) (LAID: no walk: one application.) -/
theorem Tryz.strings_Join_none (a : Option Addr) (c : Nat) (sep : ByteArray) (w : World) :
    Calls Tryz.prog 43 #[.slice a 0 c, .string sep] w fun e w' => e = .returned (.string ⟨#[]⟩) ∧ w' = w := Any.strings_Join_none Tryz.lays156 Tryz.Builder_Extra_156 a c sep w
open Go.RowKit in
/-- strings.Join: "Join concatenates the elements of its first argument to create a single string. The separator string sep is placed between elements in the resulting string.": HOWEVER MANY ELEMENTS. Below the heap's end the world is as it was. (LAID: no walk: one application.) -/
theorem Tryz.strings_Join (bk o c : Nat) (xs : List ByteArray) (sep : ByteArray) (w : World) (hcells : ∀ (j : Nat) x, xs[j]? = some x → w.cell? ⟨bk, o + j, none⟩ = some (.string x)) (hbk : bk < w.heap.size) (hN : xs.length ≤ 140737488355328) (hcap : xs.length ≤ c) (hlen : (Lib.join (xs.map (·.data.toList)) sep.data.toList).length ≤ 140737488355328) :
    Calls Tryz.prog 43 #[.slice (some ⟨bk, o, none⟩) xs.length c, .string sep] w fun e w' => e = .returned (.string ⟨(Lib.join (xs.map (·.data.toList)) sep.data.toList).toArray⟩) ∧ Below w.heap.size w w' := Any.strings_Join Tryz.lays156 Tryz.Builder_Extra_156 bk o c xs sep w hcells hbk hN hcap hlen
end Go.Proofs
namespace Go.Ks.Tx
/-- the text of a knot -/
def knotTx (x : KnotD) : ByteArray := decB x.f0 ++ (⟨#[58]⟩ : ByteArray) ++ decB x.f1
/-- the text of the first k knots -/
def curveTx (l : Nat → KnotD) : Nat → ByteArray
  | 0 => ⟨#[]⟩
  | 1 => knotTx (l 0)
  | k + 2 => curveTx l (k + 1) ++ (⟨#[32]⟩ : ByteArray) ++ knotTx (l (k + 1))
theorem one_byte (x : UInt8) : (⟨#[x]⟩ : ByteArray).size = 1 := rfl
theorem no_byte : (⟨#[]⟩ : ByteArray).size = 0 := rfl
theorem knotTx_size {x : KnotD} (h0 : 0 ≤ x.f0 ∧ x.f0 ≤ 1000) (h1 : 0 ≤ x.f1 ∧ x.f1 ≤ 1000) : (knotTx x).size ≤ 43 := by
  have e0 := decB_size (n := x.f0) (by omega)
  have e1 := decB_size (n := x.f1) (by omega)
  unfold knotTx
  rw [ByteArray.size_append, ByteArray.size_append, one_byte]
  omega
theorem curveTx_size {l : Nat → KnotD} : ∀ k, (∀ j, j < k → (knotTx (l j)).size ≤ 43) → (curveTx l k).size ≤ 44 * k
  | 0, _ => by unfold curveTx; rw [no_byte]; omega
  | 1, h => by unfold curveTx; have := h 0 (by omega); omega
  | k + 2, h => by
    have ih := curveTx_size (k + 1) (fun j hj => h j (by omega))
    have h1 := h (k + 1) (by omega)
    unfold curveTx
    rw [ByteArray.size_append, ByteArray.size_append, one_byte]
    omega
/-- the words of a curve -/
def knotWords (l : Nat → KnotD) (n : Nat) : List ByteArray := (List.range n).map (fun j => knotTx (l j))
theorem join_snoc (a : List UInt8) (xs : List (List UInt8)) (y sep : List UInt8) : Lib.join (a :: xs ++ [y]) sep = Lib.join (a :: xs) sep ++ sep ++ y := by
  rw [List.cons_append, Lib.join_cons, Lib.join_cons]
  simp [Lib.joinTail]
theorem words_succ (l : Nat → KnotD) (n : Nat) : knotWords l (n + 1) = knotWords l n ++ [knotTx (l n)] := by simp [knotWords, List.range_succ]
theorem words_cons (l : Nat → KnotD) (n : Nat) : ∃ a xs, knotWords l (n + 1) = a :: xs := by
  unfold knotWords
  rw [List.range_succ_eq_map]
  exact ⟨_, _, rfl⟩
theorem join_curve (l : Nat → KnotD) : ∀ n, Lib.join ((knotWords l (n + 1)).map (·.data.toList)) [32] = (curveTx l (n + 1)).data.toList
  | 0 => by simp [knotWords, curveTx, Lib.join_one]
  | n + 1 => by
    have ih := join_curve l n
    obtain ⟨a, xs, hw⟩ := words_cons l n
    rw [words_succ l (n + 1), hw]
    rw [hw] at ih
    rw [List.map_append, List.map_cons, List.map_cons, List.map_nil, join_snoc]
    rw [List.map_cons] at ih
    rw [ih]
    rw [show curveTx l (n + 1 + 1) = curveTx l (n + 1) ++ (⟨#[32]⟩ : ByteArray) ++ knotTx (l (n + 1)) from rfl, ByteArray.data_append, ByteArray.data_append]
    simp
end Go.Ks.Tx
namespace Go.Proofs.YthjllledhcfnhaaGreatDoor.Tx
open Go.RowKit Go.Lib Go.Ks Go.Ks.Tx
noncomputable def mCT (n : Nat) (l : Nat → KnotD) : ByteArray := if curveOk n l = true then curveTx l n else ⟨#[]⟩
theorem b_cases (b : Bool) : b = false ∨ b = true := by cases b <;> simp
theorem empty_app (b : ByteArray) : (⟨#[]⟩ : ByteArray) ++ b = b := by
  apply ByteArray.ext
  rw [ByteArray.data_append]
  simp
theorem Tryz.infoStr : (Tryz.prog.info? 9).map (fun i => (i.zero, i.size, i.bytes)) = some (some (.string ⟨#[]⟩), 1, 16) := by kernel_rfl
/-- the words written so far -/
def wordC (l : Nat → KnotD) (k : Nat) (j : Nat) : Value := if j < k then .string (knotTx (l j)) else .string ⟨#[]⟩
theorem word_step {l : Nat → KnotD} {k m : Nat} {w : World} {B : Nat} {t : TypeId} (h : Blk w B t (arr m (wordC l k))) : Blk (w.setCell ⟨B, k, none⟩ (.string (knotTx (l k)))) B t (arr m (wordC l (k + 1))) := by
  have h2 := h.set_ k (.string (knotTx (l k)))
  rw [arr_set] at h2
  exact h2.congr (fun j _ => by
    unfold wordC
    by_cases e : j = k
    · subst e; rw [if_pos rfl, if_pos (by omega)]
    · rw [if_neg e]
      by_cases q : j < k
      · rw [if_pos q, if_pos (by omega)]
      · rw [if_neg q, if_neg (by omega)])
theorem made_words (l : Nat → KnotD) (n : Nat) : madeCells (Value.string ⟨#[]⟩).cells (n * 1) = arr n (wordC l 0) := by
  rw [made_arr, Nat.mul_one]
  apply arr_ext
  intro j _
  have hj : j % 1 = 0 := Nat.mod_one j
  simp only [Value.cells, wordC]
  rw [if_neg (by omega)]
  show #[Value.string ⟨#[]⟩][j % 1]! = _
  rw [hj]
  rfl
set_option maxRecDepth 100000 in
set_option maxHeartbeats 2000000 in
theorem implCurveText_any (A : Option Addr) (n c : Nat) (l : Nat → KnotD) (w : World) (hn : n ≤ 1048576) (hs : Sl w A (n * 2) (KnotC l)) (hg : ∀ k, k < n → KnotOk (l k)) (hT : Tab w) :
    Calls Tryz.prog 11 #[.slice A n c] w fun e w' => e = .returned (.string (mCT n l)) ∧ Below w.heap.size w w' := by
  have TT := Lib.hid hT
  have HG := Lib.hid hg
  clear hT hg
  go_enter Tryz.func11, Tryz.ntmps11
  go_wp2_with fail
  refine (validCurve_any A n c l _ hn hs HG.out).mono ?_
  rintro e w1 ⟨rfl, hb1⟩
  rcases b_cases (curveOk n l) with q | q
  · have E := Lib.hid (show mCT n l = ⟨#[]⟩ by unfold mCT; rw [q]; rfl)
    rw [q]
    go_wp2_with fail
    go_ret
    exact ⟨by rw [E.out] <;> rfl, hb1⟩
  · have E := Lib.hid (show mCT n l = curveTx l n by unfold mCT; rw [q]; rfl)
    have OK := Lib.hid (curveOk_of q)
    have n16 : n ≤ 16 := OK.out.2.1
    have n2 : 2 ≤ n := OK.out.1
    have n16' : (n : Int) ≤ 16 := by omega
    obtain ⟨i0, hi, hz0, hz1, hz2⟩ := info_parts Tryz.infoStr
    have hmk := fun W => run_make_rowN (P := Tryz.prog) 69 9 i0 _ Tryz.underlying69 hi hz0 .i64 .i64 n n (Nat.le_refl _) (by rw [hz2]; omega) (by omega) W
    rw [hz1, made_words l n] at hmk
    rw [q]
    clear q hi hz0 hz1 hz2
    go_wp2_with fail
    generalize hV : World.alloc _ _ = w2
    have hb2 : Below w1.heap.size w1 w2 := by rw [← hV]; exact (Below.refl _ _).alloc (Nat.le_refl _) _
    have k2 : Blk w2 w1.heap.size 9 (arr n (wordC l 0)) := by rw [← hV]; exact Blk.new w1 _ _
    have HB := hb1.trans (hb2.mono hb1.size)
    have e1 := hb1.size
    clear hV hmk hb2
    go_loopw [14] (fun i wr => ∃ k : Nat, k ≤ n ∧ i = .int .i64 (k : Int) ∧ Blk wr w1.heap.size 9 (arr n (wordC l k)) ∧ Below w.heap.size w wr) (fun i _ => n - (RowKit.intOf i).toNat)
    case atStart => exact ⟨0, Nat.zero_le _, rfl, k2, HB⟩
    case round =>
      obtain ⟨k, hk, rfl, kw, hbl⟩ := hrel
      have kl := kw.lt
      by_cases hlt : k < n
      · obtain ⟨b, off, rfl, hb, hc⟩ := hs (by omega)
        have hbr : b < wr.heap.size := by have := hbl.size; omega
        have d0 : wr.cell? ⟨b, off + k * 2, none⟩ = some (.int .i64 (l k).f0) := by rw [hbl.cell (by exact hb), hc _ (by omega), KnotC0]
        have d1 : wr.cell? ⟨b, off + k * 2 + 1, none⟩ = some (.int .i64 (l k).f1) := by rw [hbl.cell (by exact hb), Nat.add_assoc, hc _ (by omega), KnotC1]
        clear hc
        obtain ⟨a1, a2⟩ := curve_in OK.out hlt
        obtain ⟨a3, a4⟩ := curve_out OK.out hlt
        have s1 := decB_size (n := (l k).f0) (by omega)
        have s2 := decB_size (n := (l k).f1) (by omega)
        go_wp2_with fail
        generalize hV : World.alloc _ _ = w3
        have hb3 : Below wr.heap.size wr w3 := by rw [← hV]; exact (Below.refl _ _).alloc (Nat.le_refl _) _
        have x3 : Blk w3 wr.heap.size 76 #[.int .i64 (l k).f0, .int .i64 (l k).f1] := by rw [← hV]; exact Blk.new wr _ _
        clear hV d0 d1
        have kw3 := kw.below hb3 kw.lt
        have HB3 := hbl.trans (hb3.mono hbl.size)
        have T3 := Lib.hid (TT.out.below HB3)
        have x0 := x3.cell 0
        have x1 := x3.cell 1
        simp at x0 x1
        have xl := x3.lt
        have kt := kw3.lt
        refine wp_region_ext_tail 2 10 (by kernel_rfl) (by kernel_rfl) (fun d _ _ _ _ h => by cases d <;> exact h) ?_
        simp only [List.take_succ_cons, List.take_zero, List.drop_succ_cons, List.drop_zero]
        repeat (go_big_quiet_step ((go_at_call 42; exact quiet_ext (decimal_any _ (by omega) _ (T3.out.below (ExtW.below _))))))
        refine wpQuiet_nil ?_
        intro e4
        have hb4 := e4.below
        have kw4 := kw3.below hb4 kw3.lt
        have HB4 := HB3.trans (hb4.mono HB3.size)
        have kt4 := kw4.lt
        have z4 := kw4.cell k
        rw [arr_get _ _ _ hlt] at z4
        have o4 := kw4.frozen k
        have st := word_step kw4
        have sb := HB4.setCell (p := ⟨w1.heap.size, k, none⟩) e1 (.string (knotTx (l k)))
        have ET := Lib.hid (show knotTx (l k) = decB (l k).f0 ++ (⟨#[58]⟩ : ByteArray) ++ decB (l k).f1 from rfl)
        rw [ET.out] at st sb
        go_wp2_with fail
        go_roundw
        case rel => exact ⟨k + 1, by omega, by go_num, st, sb⟩
        case measure => simp [RowKit.intOf]; omega
      · obtain rfl : k = n := by omega
        go_wp2_with fail
        obtain ⟨m, rfl⟩ : ∃ m, k = m + 1 := ⟨k - 1, by omega⟩
        have JN := join_curve l m
        have SZ := curveTx_size (l := l) (m + 1) (fun j hj => knotTx_size (curve_in OK.out hj) (curve_out OK.out hj))
        have hlen : (knotWords l (m + 1)).length = m + 1 := by simp [knotWords]
        have hj := Tryz.strings_Join w1.heap.size 0 (m + 1) (knotWords l (m + 1)) ⟨#[32]⟩ wr (fun j z hz => by
          have hjl : j < m + 1 := by
            have := (List.getElem?_eq_some_iff.1 hz).1
            omega
          rw [Nat.zero_add, kw.cell, arr_get _ _ _ hjl]
          unfold wordC
          rw [if_pos hjl]
          simp [knotWords, hjl] at hz
          rw [hz]) kw.lt (by omega) (by omega) (by
            rw [JN]
            simp only [Array.length_toList]
            show (curveTx l (m + 1)).size ≤ _
            omega)
        rw [hlen, JN] at hj
        refine hj.mono ?_
        rintro e w6 ⟨rfl, hb6⟩
        go_wp2_with fail
        go_ret
        exact ⟨by rw [E.out] <;> rfl, hbl.trans (hb6.mono hbl.size)⟩
end Go.Proofs.YthjllledhcfnhaaGreatDoor.Tx
