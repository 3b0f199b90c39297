/- The folded cells of a mesh. Conditions: the slice reads as spots. -/
import Derived.Test.YthjllledhcfnhaaDoorMirror
import Derived.Test.YthjllledhcfnhaaDoorWarpImpl
namespace Go.Proofs.YthjllledhcfnhaaDoor
open Go.RowKit Go.Lib Go.Ks

def IntC (l : Nat → Int) : Nat → Value := fun j => .int .i64 (l j)
set_option maxHeartbeats 800000 in
theorem eqInt64S_yes (A A' : Option Addr) (n c c' : Nat) (l : Nat → Int) (w : World) (hn : n ≤ 1048576) (hs : Sl w A (n * 1) (IntC l)) (hs' : Sl w A' (n * 1) (IntC l)) :
    Calls Tryd.prog 12 #[.slice A n c, .slice A' n c'] w fun e w' => e = .returned (.bool true) ∧ Below w.heap.size w w' := by
  have hn' : (n : Int) ≤ 9223372036854775807 := by omega
  go_enter Tryd.func12, Tryd.ntmps12
  go_wp2_with fail
  go_loopw [5] (fun i wr => ∃ k : Nat, k ≤ n ∧ i = .int .i64 k ∧ Below w.heap.size w wr) (fun i _ => n - (intOf i).toNat)
  case atStart => exact ⟨0, Nat.zero_le _, rfl, Below.refl _ _⟩
  case round =>
    obtain ⟨k, hk, rfl, hbl⟩ := hrel
    by_cases hlt : k < n
    · obtain ⟨b, off, rfl, hb, hc⟩ := hs (by omega)
      obtain ⟨b', off', rfl, hb', hc'⟩ := hs' (by omega)
      have hbr : b < wr.heap.size := by have := hbl.size; omega
      have hbr' : b' < wr.heap.size := by have := hbl.size; omega
      have d0 : wr.cell? ⟨b, off + k, none⟩ = some (.int .i64 (l k)) := by rw [hbl.cell (by exact hb), hc _ (by omega)]; rfl
      have d'0 : wr.cell? ⟨b', off' + k, none⟩ = some (.int .i64 (l k)) := by rw [hbl.cell (by exact hb'), hc' _ (by omega)]; rfl
      clear hc hc'
      go_wp2_with fail
      refine wp_region_ext (by kernel_rfl) (by kernel_rfl) ?_
      repeat (go_big_quiet_step (fail))
      refine wpQuiet_nil ?_
      intro e1
      have hb1 := e1.below
      go_wp2_with fail
      go_roundw
      case rel => exact ⟨k + 1, by omega, by go_num, hbl.trans (hb1.mono hbl.size)⟩
      case measure => simp [intOf]; omega
    · go_wp2_with fail
      go_ret
      exact ⟨rfl, hbl⟩
theorem mk_step1 {w : World} {B m k : Nat} {t : TypeId} {k0 : Int} {f : Nat → Value} (h : Blk w B t (arr m (fun j => if j = k then .int .i64 (k0 + (k : Int)) else mk k0 k f j))) : Blk w B t (arr m (mk k0 (k + 1) f)) := by
  refine h.congr fun j _ => ?_
  by_cases hj : j = k
  · subst hj; rw [if_pos rfl]; unfold mk; rw [if_pos (by omega)]
  · rw [if_neg hj]
    unfold mk
    by_cases h2 : j < k
    · rw [if_pos h2, if_pos (by omega)]
    · rw [if_neg h2, if_neg (by omega)]
set_option maxHeartbeats 800000 in
theorem markInt64S_blk (B n c m : Nat) (k0 : Int) (f : Nat → Value) (w : World) (hn : n ≤ 1048576) (hk0 : 0 ≤ k0) (hk1 : k0 ≤ 1000000000) (hm : n * 1 ≤ m) (hblk0 : Blk w B 2 (arr m f)) :
    Calls Tryd.prog 15 #[.slice (some ⟨B, 0, none⟩) n c, .int .i64 k0] w fun e w' => e = .returned (.int .i64 (k0 + (n : Int))) ∧ w.grownBy w' (some B) ∧ Blk w' B 2 (arr m (mk k0 (n * 1) f)) := by
  have hn' : (n : Int) ≤ 1048576 := by omega
  go_enter Tryd.func15, Tryd.ntmps15
  go_wp2_with fail
  go_loopw [1, 5] (fun t i wr => ∃ k : Nat, k ≤ n ∧ i = .int .i64 k ∧ t = .int .i64 (k0 + (k : Int)) ∧ w.grownBy wr (some B) ∧ Blk wr B 2 (arr m (mk k0 k f))) (fun _ i _ => n - (intOf i).toNat)
  case atStart => exact ⟨0, Nat.zero_le _, rfl, ret_num (by omega), World.grownBy.refl _ _, hblk0.congr (fun j _ => (mk_out (by omega)).symm)⟩
  case round =>
    obtain ⟨k, hk, rfl, rfl, hbl, hblk⟩ := hrel
    by_cases hlt : k < n
    · have hgr : B < wr.heap.size := hblk.lt
      obtain ⟨v0, s0⟩ : ∃ v, wr.cell? ⟨B, k, none⟩ = some v := ⟨_, by rw [hblk.cell, arr_get _ _ _ (by omega)]⟩
      have r0 : wr.frozen? ⟨B, k, none⟩ = false := hblk.frozen _
      go_wp2_with fail
      go_roundw
      case rel =>
        refine ⟨k + 1, by omega, by go_num, ret_num (by omega), ?_, ?_⟩
        · exact only_setCell hbl (.inl rfl) _
        · have h := hblk.set_ k (.int .i64 (k0 + (k : Int)))
          rw [arr_set] at h
          exact mk_step1 h
      case measure => simp [intOf]; omega
    · go_wp2_with fail
      go_ret
      have : k = n := by omega
      subst this
      exact ⟨rfl, hbl, by rw [Nat.mul_one]; exact hblk⟩
theorem markInt64S_nil (k0 : Int) (w : World) :
    Calls Tryd.prog 15 #[.slice none 0 0, .int .i64 k0] w fun e w' => e = .returned (.int .i64 k0) ∧ w = w' := by
  go_enter Tryd.func15, Tryd.ntmps15
  go_wp2_with fail
  go_loop [1, 5] (fun t i => i = .int .i64 0 ∧ t = .int .i64 k0) (fun _ _ => 0)
  case atStart => exact ⟨rfl, rfl⟩
  case round =>
    obtain ⟨rfl, rfl⟩ := hrel
    go_wp2_with fail
    go_ret
    exact ⟨rfl, rfl⟩
theorem markInt64S_any (base : Nat) (A : Option Addr) (n c : Nat) (k0 : Int) (f : Nat → Value) (w : World) (hn : n ≤ 1048576) (hk0 : 0 ≤ k0) (hk1 : k0 ≤ 1000000000) (ho : Own w base 2 1 A n f) (hc : A = none → c = 0) :
    Calls Tryd.prog 15 #[.slice A n c, .int .i64 k0] w fun e w' => e = .returned (.int .i64 (k0 + (n : Int))) ∧ w.grownBy w' (blockOf A) ∧ Own w' base 2 1 A n (mk k0 (n * 1) f) := by
  rcases ho with ⟨rfl, rfl⟩ | ⟨B, m, h, rfl, hb, hk, hm, hf⟩
  · obtain rfl := hc rfl
    refine (markInt64S_nil k0 w).mono ?_
    rintro e w' ⟨rfl, rfl⟩
    exact ⟨ret_int (by omega), World.grownBy.refl _ _, .inl ⟨rfl, rfl⟩⟩
  · refine (markInt64S_blk B n c m k0 h w hn hk0 hk1 hm hk).mono ?_
    rintro e w' ⟨rfl, hg, hk'⟩
    exact ⟨rfl, hg, .inr ⟨B, m, _, rfl, hb, hk', hm, fun j hj => by unfold mk; rw [if_pos hj, if_pos hj]⟩⟩
set_option maxHeartbeats 800000 in
theorem heldInt64S_any (A : Option Addr) (n c : Nat) (k0 : Int) (f : Nat → Value) (w : World) (hn : n ≤ 1048576) (hk0 : 0 ≤ k0) (hk1 : k0 ≤ 1000000000) (hs : Sl w A (n * 1) (mk k0 (n * 1) f)) :
    Calls Tryd.prog 16 #[.slice A n c, .int .i64 k0] w fun e w' => e = .returned (.int .i64 (k0 + (n : Int))) ∧ Below w.heap.size w w' := by
  have hn' : (n : Int) ≤ 1048576 := by omega
  go_enter Tryd.func16, Tryd.ntmps16
  go_wp2_with fail
  go_loopw [1, 5] (fun t i wr => ∃ k : Nat, k ≤ n ∧ i = .int .i64 k ∧ t = .int .i64 (k0 + (k : Int)) ∧ Below w.heap.size w wr) (fun _ i _ => n - (intOf i).toNat)
  case atStart => exact ⟨0, Nat.zero_le _, rfl, ret_num (by omega), Below.refl _ _⟩
  case round =>
    obtain ⟨k, hk, rfl, rfl, hbl⟩ := hrel
    by_cases hlt : k < n
    · obtain ⟨b, off, rfl, hb, hc⟩ := hs (by omega)
      have d0 : wr.cell? ⟨b, off + k, none⟩ = some (.int .i64 (k0 + (k : Int))) := by rw [hbl.cell (by exact hb), hc _ (by omega)]; exact mk_at (by omega) rfl
      have hbr : b < wr.heap.size := by have := hbl.size; omega
      clear hc
      go_wp2_with fail
      go_roundw
      case rel => exact ⟨k + 1, by omega, by go_num, ret_num (by omega), hbl⟩
      case measure => simp [intOf]; omega
    · go_wp2_with fail
      go_ret
      have : k = n := by omega
      subst this
      exact ⟨rfl, hbl⟩

def sideV (p q r : SpotD) : Int := (q.f0 - p.f0) * (r.f1 - p.f1) - (q.f1 - p.f1) * (r.f0 - p.f0)
def turnB (p q r : SpotD) : Bool := decide (0 < sideV p q r)
def badB (c : Nat) (l : Nat → SpotD) (k : Nat) : Bool := !(turnB (l k) (l (k + 1)) (l (k + c + 1)) && turnB (l (k + 1)) (l (k + c + 1)) (l (k + c)) && turnB (l (k + c + 1)) (l (k + c)) (l k) && turnB (l (k + c)) (l k) (l (k + 1)))
theorem prod_bd {a b : Int} (h1 : -4000000 ≤ a) (h2 : a ≤ 4000000) (h3 : -4000000 ≤ b) (h4 : b ≤ 4000000) : -16000000000000 ≤ a * b ∧ a * b ≤ 16000000000000 := by
  rcases Int.le_total 0 b with h | h
  · have k1 : a * b ≤ 4000000 * b := Int.mul_le_mul_of_nonneg_right h2 h
    have k2 : -4000000 * b ≤ a * b := Int.mul_le_mul_of_nonneg_right h1 h
    omega
  · have k1 : a * -b ≤ 4000000 * -b := Int.mul_le_mul_of_nonneg_right h2 (by omega)
    have k2 : -4000000 * -b ≤ a * -b := Int.mul_le_mul_of_nonneg_right h1 (by omega)
    rw [Int.mul_neg a b] at k1 k2
    omega
theorem isLeft_any (p q r : SpotD) (hp : plane p.f0 p.f1 = true) (hq : plane q.f0 q.f1 = true) (hr : plane r.f0 r.f1 = true) (w : World) :
    Calls Tryd.prog 106 #[.agg #[.int .i64 p.f0, .int .i64 p.f1], .agg #[.int .i64 q.f0, .int .i64 q.f1], .agg #[.int .i64 r.f0, .int .i64 r.f1]] w fun e w' => e = .returned (.bool (turnB p q r)) ∧ Below w.heap.size w w' := by
  rw [plane_iff] at hp hq hr
  have k1 := prod_bd (a := q.f0 - p.f0) (b := r.f1 - p.f1) (by omega) (by omega) (by omega) (by omega)
  have k2 := prod_bd (a := q.f1 - p.f1) (b := r.f0 - p.f0) (by omega) (by omega) (by omega) (by omega)
  obtain ⟨⟨p1, p2⟩, p3, p4⟩ := hp
  obtain ⟨⟨q1, q2⟩, q3, q4⟩ := hq
  obtain ⟨⟨r1, r2⟩, r3, r4⟩ := hr
  obtain ⟨k11, k12⟩ := k1
  obtain ⟨k21, k22⟩ := k2
  go_enter Tryd.func106, Tryd.ntmps106
  go_wp2_with fail
  all_goals go_ret
  all_goals refine ⟨ret_bool ?_, ?_⟩
  all_goals first | repeat (first | with_reducible exact Below.refl _ _ | with_reducible assumption | with_reducible refine Below.setCell ?_ (by simp <;> omega) _ | with_reducible refine Below.alloc ?_ (by simp <;> omega) _ | with_reducible refine Below.drew ?_) | skip
  all_goals (unfold turnB sideV; first | rfl | (simp; done) | (simp; omega))
def foldRow (c : Nat) (l : Nat → SpotD) (y : Nat) : Nat → List Int
  | 0 => []
  | x + 1 => foldRow c l y x ++ (if badB c l (y * c + x) = true then [((y * (c - 1) + x : Nat) : Int)] else [])
def foldAll (c : Nat) (l : Nat → SpotD) : Nat → List Int
  | 0 => []
  | y + 1 => foldAll c l y ++ foldRow c l y (c - 1)
def foldSt (c : Nat) (l : Nat → SpotD) (y x : Nat) : List Int := foldAll c l y ++ foldRow c l y x
theorem foldRow_len (c : Nat) (l : Nat → SpotD) (y : Nat) : ∀ x, (foldRow c l y x).length ≤ x
  | 0 => Nat.le_refl _
  | x + 1 => by
    have := foldRow_len c l y x
    unfold foldRow
    rw [List.length_append]
    split <;> simp <;> omega
theorem foldAll_len (c : Nat) (l : Nat → SpotD) : ∀ y, (foldAll c l y).length ≤ y * (c - 1)
  | 0 => by simp [foldAll]
  | y + 1 => by
    have h1 := foldAll_len c l y
    have h2 := foldRow_len c l y (c - 1)
    unfold foldAll
    rw [List.length_append, Nat.add_mul]
    omega
theorem foldSt_zero (c : Nat) (l : Nat → SpotD) (y : Nat) : foldSt c l y 0 = foldAll c l y := by simp [foldSt, foldRow]
theorem foldSt_row (c : Nat) (l : Nat → SpotD) (y : Nat) : foldSt c l y (c - 1) = foldAll c l (y + 1) := rfl
theorem foldSt_no {c : Nat} {l : Nat → SpotD} {y x : Nat} (h : badB c l (y * c + x) = false) : foldSt c l y (x + 1) = foldSt c l y x := by
  unfold foldSt
  rw [foldRow, h]
  simp
theorem foldSt_yes {c : Nat} {l : Nat → SpotD} {y x : Nat} (h : badB c l (y * c + x) = true) : foldSt c l y (x + 1) = foldSt c l y x ++ [((y * (c - 1) + x : Nat) : Int)] := by
  unfold foldSt
  rw [foldRow, h]
  simp
theorem foldSt_len {c : Nat} {l : Nat → SpotD} {y x : Nat} (hc : c ≤ 9) (hy : y ≤ 8) (hx : x ≤ 8) : (foldSt c l y x).length ≤ 72 := by
  have h1 := foldAll_len c l y
  have h2 := foldRow_len c l y x
  have h3 : y * (c - 1) ≤ 8 * 8 := Nat.mul_le_mul hy (by omega)
  unfold foldSt
  rw [List.length_append]
  omega
def lst (L : List Int) : Nat → Int := fun j => L.getD j 0
theorem lst_low {L : List Int} {q : Int} {j : Nat} (h : j < L.length) : IntC (lst L) j = IntC (lst (L ++ [q])) j := by
  unfold IntC lst
  simp [List.getD, List.getElem?_append_left h]
theorem lst_top {L : List Int} {q : Int} : IntC (lst (L ++ [q])) (L.length * 1 + 0) = .int .i64 q := by
  unfold IntC lst
  simp [List.getD]
open Classical in
noncomputable def mFoldedCellsN (C R : Int) (n : Nat) (l : Nat → SpotD) : Nat := if MeshOk C R n l then (foldAll C.toNat l (R.toNat - 1)).length else 0
def mFoldedCellsL (C R : Int) (_n : Nat) (l : Nat → SpotD) : Nat → Int := lst (foldAll C.toNat l (R.toNat - 1))
open Classical in
noncomputable def mFoldedCellsC (C R : Int) (n : Nat) (l : Nat → SpotD) : Int := if MeshOk C R n l then 0 else 1
theorem mFoldedCells_len (C R : Int) (n : Nat) (l : Nat → SpotD) : mFoldedCellsN C R n l ≤ 1048576 := by
  unfold mFoldedCellsN
  split
  · rename_i h
    obtain ⟨⟨h1, h2⟩, ⟨h3, h4⟩, _, _⟩ := h
    have := foldSt_len (c := C.toNat) (l := l) (y := R.toNat - 1) (x := 0) (by omega) (by omega) (by omega)
    rw [foldSt_zero] at this
    omega
  · omega
theorem mFolded_no {C R : Int} {n : Nat} {l : Nat → SpotD} (h : ¬ MeshOk C R n l) : mFoldedCellsN C R n l = 0 ∧ mFoldedCellsC C R n l = 1 := ⟨if_neg h, if_neg h⟩
theorem mFolded_ok {C R : Int} {n : Nat} {l : Nat → SpotD} (h : MeshOk C R n l) : mFoldedCellsN C R n l = (foldAll C.toNat l (R.toNat - 1)).length ∧ mFoldedCellsC C R n l = 0 := ⟨if_pos h, if_pos h⟩
theorem Tryd.infoInt : (Tryd.prog.info? 2).map (fun i => (i.zero, i.size, i.bytes)) = some (some (.int .i64 0), 1, 8) := by kernel_rfl
theorem retI {w w' : World} {e : TypeId} {size n n' : Nat} {f : Nat → Value} {code code' : Int} {A : Option Addr} {c : Nat} (hn : n = n') (hc : code = code') (h : Own w' w.heap.size e size A n f) (hz : A = none → c = 0) :
    RetS w w' e size n' f code' (.returned (.tuple #[.slice A n c, .int .i64 code])) := by
  subst hn; subst hc; exact ⟨A, c, rfl, h, hz⟩
theorem int_news {w : World} {f : Nat → Value} {j0 g : Nat} {q : Int} (hg : g = w.heap.size) (h : f (j0 + 0) = .int .i64 q) : ∀ j, j < 1 → (w.alloc (.cells #[.int .i64 q] 2)).cell? ⟨g, j, none⟩ = some (f (j0 + j)) := fun j hj => by
  subst hg
  obtain rfl : j = 0 := by omega
  rw [(Blk.new w 2 #[.int .i64 q]).cell, h]
  rfl
theorem int_one {f : Nat → Value} {j0 : Nat} {q : Int} (h : f (j0 + 0) = .int .i64 q) : ∀ j, j < 1 → (f (j0 + j)).oneCell' = true := fun j hj => by
  obtain rfl : j = 0 := by omega
  rw [h]
  rfl
set_option maxRecDepth 100000 in
set_option maxHeartbeats 8000000 in
theorem implFoldedCells_any (C R : Int) (A : Option Addr) (n cp : Nat) (l : Nat → SpotD) (w : World) (hn : n ≤ 1048576) (hs : Sl w A (n * 2) (SpotC l)) (_hg : ∀ k, k < n → SpotOk (l k)) :
    Calls Tryd.prog 45 #[.agg #[.int .i64 C, .int .i64 R, .slice A n cp]] w fun e w' => RetS w w' 2 1 (mFoldedCellsN C R n l) (IntC (mFoldedCellsL C R n l)) (mFoldedCellsC C R n l) e ∧ Below w.heap.size w w' := by
  obtain ⟨i0, hi, hz0, hz1, hz2⟩ := info_parts Tryd.infoInt
  go_enter Tryd.func45, Tryd.ntmps45
  go_wp2_with fail
  generalize hW : World.alloc w _ = w1
  have hb1 : Below w.heap.size w w1 := by rw [← hW]; repeat (first | with_reducible exact Below.refl _ _ | with_reducible assumption | with_reducible refine Below.setCell ?_ (by simp <;> omega) _ | with_reducible refine Below.alloc ?_ (by simp <;> omega) _ | with_reducible refine Below.drew ?_)
  have x0 : Blk w1 w.heap.size 69 #[.int .i64 C, .int .i64 R, .slice A n cp] := by rw [← hW]; exact Blk.new w _ _
  clear hW
  have a0 := x0.cell 0
  have a1 := x0.cell 1
  have a2 := x0.cell 2
  simp at a0 a1 a2
  have la := x0.lt
  try go_wp2_with fail
  refine (validMesh_any C R _ n cp l _ hn (hs.below hb1)).mono ?_
  rintro e w2 ⟨rfl, hb2⟩
  have hbw2 := hb1.trans (hb2.mono hb1.size)
  have y0 := x0.below hb2 x0.lt
  clear a0 a1 a2 la
  have s2 := hbw2.size
  cases ok : meshOk C R n l
  · have E := Lib.hid (mFolded_no (C := C) (R := R) (n := n) (l := l) (fun h => by rw [meshOk_yes h] at ok; cases ok))
    go_wp2_with fail
    exact bodyPost_ret (v := .tuple #[.slice none 0 0, .int .i64 1]) (by simp [results, Tryd.results45, go_sem]) rfl ⟨retI E.out.1.symm E.out.2.symm (Own.nil _ _ _ _ _) (fun _ => rfl), hbw2⟩
  have OK := meshOk_of ok
  clear ok
  have E := Lib.hid (mFolded_ok OK)
  obtain ⟨⟨hC1, hC2⟩, ⟨hR1, hR2⟩, hnC, hpl⟩ := OK
  obtain ⟨c, rfl⟩ := Int.eq_ofNat_of_zero_le (by omega : 0 ≤ C)
  obtain ⟨r, rfl⟩ := Int.eq_ofNat_of_zero_le (by omega : 0 ≤ R)
  have hnc : n = r * c := by
    have : ((n : Nat) : Int) = ((c * r : Nat) : Int) := by rw [hnC, Int.natCast_mul]
    rw [Nat.mul_comm]; omega
  have HN := Lib.hid hnc
  have HPL := Lib.hid hpl
  clear hpl hnC hnc
  have b0 := y0.cell 0
  have b1 := y0.cell 1
  have b2 := y0.cell 2
  simp at b0 b1 b2
  have lb := y0.lt
  go_wp2_with fail
  clear b0 b1 b2 lb
  go_loopw [4, 18] (fun v a wr => ∃ y : Nat, y ≤ r - 1 ∧ a = .int .i64 (y : Int) ∧ Row wr w2.heap.size 2 1 v (foldAll c l y).length (IntC (lst (foldAll c l y))) ∧ Below w2.heap.size w2 wr) (fun _ a _ => (r - (intOf a).toNat))
  case atStart => exact ⟨0, by omega, rfl, Row.nil _ _ _ _ _, Below.refl _ _⟩
  case round =>
    obtain ⟨y, hy, rfl, hrow, hbl⟩ := hrel
    have q0 := y0.below hbl y0.lt
    have d0 := q0.cell 0
    simp at d0
    have lq := q0.lt
    by_cases hlt : y < r - 1
    · have hlt' : (y : Int) < (r : Int) - 1 := by omega
      go_wp2_with fail
      obtain ⟨wo, rfl⟩ : ∃ wo : World, wo = wr := ⟨_, rfl⟩
      have hrm : y * c ≤ 8 * 9 := Nat.mul_le_mul (by omega) (by omega)
      have hrm2 : (y : Int) * (c : Int) = ((y * c : Nat) : Int) := (Int.natCast_mul y c).symm
      have HRM := Lib.hid hrm2
      have hr1 : 0 ≤ (y : Int) * (c : Int) := by rw [hrm2]; omega
      have hr2 : (y : Int) * (c : Int) ≤ 72 := by rw [hrm2]; omega
      have hpm : y * (c - 1) ≤ 8 * 8 := Nat.mul_le_mul (by omega) (by omega)
      have hpm2 : (y : Int) * ((c : Int) - 1) = ((y * (c - 1) : Nat) : Int) := by
        rw [Int.natCast_mul]
        congr 1
        omega
      have HPM := Lib.hid hpm2
      have hp1 : 0 ≤ (y : Int) * ((c : Int) - 1) := by rw [hpm2]; omega
      have hp2 : (y : Int) * ((c : Int) - 1) ≤ 64 := by rw [hpm2]; omega
      have hjn : y * c + c + c ≤ n := by
        rw [HN.out]
        have : (y + 2) * c ≤ r * c := Nat.mul_le_mul_right c (by omega)
        rw [Nat.add_mul] at this
        omega
      clear d0 lq hrm2 hpm2 q0 hlt'
      go_loopw [4, 24] (fun v b wr => ∃ x : Nat, x ≤ c - 1 ∧ b = .int .i64 (x : Int) ∧ Row wr w2.heap.size 2 1 v (foldSt c l y x).length (IntC (lst (foldSt c l y x))) ∧ Below w2.heap.size w2 wr) (fun _ b _ => (c - (intOf b).toNat))
      case atStart => exact ⟨0, by omega, rfl, by rw [foldSt_zero]; exact hrow, hbl⟩
      case round =>
        obtain ⟨x, hx, rfl, hrow, hbl⟩ := hrel
        have q0 := y0.below hbl y0.lt
        have d0 := q0.cell 0
        have d2 := q0.cell 2
        simp at d0 d2
        have lq := q0.lt
        have hsz := hbl.size
        by_cases hlt2 : x < c - 1
        · have hlt2' : (x : Int) < (c : Int) - 1 := by omega
          have hbw := hbw2.trans (hbl.mono hbw2.size)
          obtain ⟨k, hkk⟩ : ∃ k, k = y * c + x := ⟨_, rfl⟩
          obtain ⟨q, hqq⟩ : ∃ q, q = y * (c - 1) + x := ⟨_, rfl⟩
          have hk : (y : Int) * (c : Int) + (x : Int) = (k : Int) := by rw [HRM.out]; omega
          have hq : (y : Int) * ((c : Int) - 1) + (x : Int) = (q : Int) := by rw [HPM.out]; omega
          have HKK := Lib.hid hkk
          have HQQ := Lib.hid hqq
          have hkn : k + c + 1 < n := by omega
          have hq64 : (q : Int) ≤ 72 := by omega
          have hk72 : (k : Int) ≤ 90 := by omega
          clear hkk hqq
          obtain ⟨b, off, rfl, hb, hc⟩ := hs (by omega)
          have lb : b < wr.heap.size := by have := hbw.size; omega
          have ce : ∀ j, j < n → wr.cell? ⟨b, off + j * 2, none⟩ = some (.int .i64 (l j).f0) ∧ wr.cell? ⟨b, off + j * 2 + 1, none⟩ = some (.int .i64 (l j).f1) := fun j hj => by
            refine ⟨by rw [hbw.cell (by exact hb), hc _ (by omega), SpotC0], by rw [hbw.cell (by exact hb), Nat.add_assoc, hc _ (by omega), SpotC1]⟩
          have d10 := (ce k (by omega)).1
          have d11 := (ce k (by omega)).2
          have d20 := (ce (k + 1) (by omega)).1
          have d21 := (ce (k + 1) (by omega)).2
          have d30 := (ce (k + c) (by omega)).1
          have d31 := (ce (k + c) (by omega)).2
          have d40 := (ce (k + c + 1) (by omega)).1
          have d41 := (ce (k + c + 1) (by omega)).2
          clear ce hc
          have g1 := HPL.out k (by omega)
          have g2 := HPL.out (k + 1) (by omega)
          have g3 := HPL.out (k + c) (by omega)
          have g4 := HPL.out (k + c + 1) (by omega)
          have G1 := Lib.hid g1
          have G2 := Lib.hid g2
          have G3 := Lib.hid g3
          have G4 := Lib.hid g4
          clear g1 g2 g3 g4
          have hk2 : (k : Int) < (n : Int) := by omega
          have hk3 : (k : Int) + 1 < (n : Int) := by omega
          have hk4 : (k : Int) + (c : Int) < (n : Int) := by omega
          have hk5 : (k : Int) + (c : Int) + 1 < (n : Int) := by omega
          go_wp2_with fail
          have hq1 : (0 : Int) ≤ (k : Int) + (c : Int) := by omega
          have hq2 : ((k : Int) + (c : Int)).toNat = k + c := by omega
          have hq3 : (0 : Int) ≤ (k : Int) + (c : Int) + 1 := by omega
          have hq4 : ((k : Int) + (c : Int) + 1).toNat = k + c + 1 := by omega
          have hq5 : (0 : Int) ≤ (k : Int) + 1 := by omega
          have hq6 : ((k : Int) + 1).toNat = k + 1 := by omega
          have hw0 : IntKind.i64.wrap ((k : Int) + 1) = (k : Int) + 1 := IntWalk.i64_in _ (by omega)
          have hw1 : IntKind.i64.wrap ((k : Int) + (c : Int)) = (k : Int) + (c : Int) := IntWalk.i64_in _ (by omega)
          have hw2 : IntKind.i64.wrap ((k : Int) + (c : Int) + 1) = (k : Int) + (c : Int) + 1 := IntWalk.i64_in _ (by omega)
          go_cut [8, 9, 10, 11] (fun p q r s wx => ∃ P Q R S : Nat, p = .pointer (some ⟨P, 0, none⟩) ∧ q = .pointer (some ⟨Q, 0, none⟩) ∧ r = .pointer (some ⟨R, 0, none⟩) ∧ s = .pointer (some ⟨S, 0, none⟩) ∧
            Blk wx P 81 #[.int .i64 (l k).f0, .int .i64 (l k).f1] ∧ Blk wx Q 81 #[.int .i64 (l (k + 1)).f0, .int .i64 (l (k + 1)).f1] ∧ Blk wx R 81 #[.int .i64 (l (k + c)).f0, .int .i64 (l (k + c)).f1] ∧ Blk wx S 81 #[.int .i64 (l (k + c + 1)).f0, .int .i64 (l (k + c + 1)).f1] ∧ Below wr.heap.size wr wx)
          case first =>
            refine wp_region_puts 28 32 97 81 #[.int .i64 0, .int .i64 0] spotG aggC (by kernel_rfl) (by kernel_rfl) (by rfl) allocSpot storeSpot ?_
            simp only [List.take_succ_cons, List.take_zero, List.drop_succ_cons, List.drop_zero]
            repeat (go_big_quiet_step (fail))
            refine wpQuiet_nil ?_
            intro P Q R S
            refine ⟨⟨⟨_, _, rfl⟩, ⟨_, _, rfl⟩, ⟨_, _, rfl⟩, ⟨_, _, rfl⟩, True.intro⟩, ?_⟩
            rintro w5 hb5 ⟨⟨P', e1, _, z1⟩, ⟨Q', e2, _, z2⟩, ⟨R', e3, _, z3⟩, ⟨S', e4, _, z4⟩, -⟩
            have e1' : Value.pointer (some ⟨P, 0, none⟩) = .pointer (some ⟨P', 0, none⟩) := e1
            have e2' : Value.pointer (some ⟨Q, 0, none⟩) = .pointer (some ⟨Q', 0, none⟩) := e2
            have e3' : Value.pointer (some ⟨R, 0, none⟩) = .pointer (some ⟨R', 0, none⟩) := e3
            have e4' : Value.pointer (some ⟨S, 0, none⟩) = .pointer (some ⟨S', 0, none⟩) := e4
            injection e1' with e1'; injection e1' with e1'; injection e1' with e1'
            injection e2' with e2'; injection e2' with e2'; injection e2' with e2'
            injection e3' with e3'; injection e3' with e3'; injection e3' with e3'
            injection e4' with e4'; injection e4' with e4'; injection e4' with e4'
            subst e1' e2' e3' e4'
            simp only [Act.put, List.setIfInBounds_toArray, List.set_cons_succ, List.set_cons_zero]
            go_wp2_with fail
            go_meet
            exact ⟨P, Q, R, S, rfl, rfl, rfl, rfl, z1, z2, z3, z4, hb5⟩
          obtain ⟨P, Q, R', S, rfl, rfl, rfl, rfl, z1, z2, z3, z4, hb3⟩ := hcut
          obtain ⟨w3, rfl⟩ : ∃ q : World, q = wc := ⟨_, rfl⟩
          clear d0 d2 lq d10 d11 d20 d21 d30 d31 d40 d41 hq1 hq2 hq3 hq4 hq5 hq6 hw0 hw1 hw2 q0
          have hrow3 := hrow.below hb3
          have hbl3 := hbl.trans (hb3.mono hsz)
          clear hrow hbl
          have hsz3 := hbl3.size
          have g10 := z1.cell 0
          have g11 := z1.cell 1
          have g20 := z2.cell 0
          have g21 := z2.cell 1
          have g30 := z3.cell 0
          have g31 := z3.cell 1
          have g40 := z4.cell 0
          have g41 := z4.cell 1
          simp at g10 g11 g20 g21 g30 g31 g40 g41
          have l1 := z1.lt
          have l2 := z2.lt
          have l3 := z3.lt
          have l4 := z4.lt
          go_upto_region 12 with fail
          go_cut [83] (fun s wx => s = .bool (badB c l k) ∧ Below w3.heap.size w3 wx)
          case first =>
            go_wp2_with fail
            refine (isLeft_any (l k) (l (k + 1)) (l (k + c + 1)) G1.out G2.out G4.out _).mono ?_
            rintro e v1 ⟨rfl, F1⟩
            have K1 := F1
            replace z1 := z1.below F1 z1.lt
            replace z2 := z2.below F1 z2.lt
            replace z3 := z3.below F1 z3.lt
            replace z4 := z4.below F1 z4.lt
            clear g10 g11 g20 g21 g30 g31 g40 g41 l1 l2 l3 l4
            have g10 := z1.cell 0
            have g11 := z1.cell 1
            have g20 := z2.cell 0
            have g21 := z2.cell 1
            have g30 := z3.cell 0
            have g31 := z3.cell 1
            have g40 := z4.cell 0
            have g41 := z4.cell 1
            simp at g10 g11 g20 g21 g30 g31 g40 g41
            have l1 := z1.lt
            have l2 := z2.lt
            have l3 := z3.lt
            have l4 := z4.lt
            cases t1 : turnB (l k) (l (k + 1)) (l (k + c + 1))
            · go_wp2_with fail
              go_meet
              exact ⟨by simp [badB, t1], K1⟩
            go_wp2_with fail
            refine (isLeft_any (l (k + 1)) (l (k + c + 1)) (l (k + c)) G2.out G4.out G3.out _).mono ?_
            rintro e v2 ⟨rfl, F2⟩
            have K2 := K1.trans (F2.mono K1.size)
            replace z1 := z1.below F2 z1.lt
            replace z2 := z2.below F2 z2.lt
            replace z3 := z3.below F2 z3.lt
            replace z4 := z4.below F2 z4.lt
            clear g10 g11 g20 g21 g30 g31 g40 g41 l1 l2 l3 l4
            have g10 := z1.cell 0
            have g11 := z1.cell 1
            have g20 := z2.cell 0
            have g21 := z2.cell 1
            have g30 := z3.cell 0
            have g31 := z3.cell 1
            have g40 := z4.cell 0
            have g41 := z4.cell 1
            simp at g10 g11 g20 g21 g30 g31 g40 g41
            have l1 := z1.lt
            have l2 := z2.lt
            have l3 := z3.lt
            have l4 := z4.lt
            cases t2 : turnB (l (k + 1)) (l (k + c + 1)) (l (k + c))
            · go_wp2_with fail
              go_meet
              exact ⟨by simp [badB, t1, t2], K2⟩
            go_wp2_with fail
            refine (isLeft_any (l (k + c + 1)) (l (k + c)) (l k) G4.out G3.out G1.out _).mono ?_
            rintro e v3 ⟨rfl, F3⟩
            have K3 := K2.trans (F3.mono K2.size)
            replace z1 := z1.below F3 z1.lt
            replace z2 := z2.below F3 z2.lt
            replace z3 := z3.below F3 z3.lt
            replace z4 := z4.below F3 z4.lt
            clear g10 g11 g20 g21 g30 g31 g40 g41 l1 l2 l3 l4
            have g10 := z1.cell 0
            have g11 := z1.cell 1
            have g20 := z2.cell 0
            have g21 := z2.cell 1
            have g30 := z3.cell 0
            have g31 := z3.cell 1
            have g40 := z4.cell 0
            have g41 := z4.cell 1
            simp at g10 g11 g20 g21 g30 g31 g40 g41
            have l1 := z1.lt
            have l2 := z2.lt
            have l3 := z3.lt
            have l4 := z4.lt
            cases t3 : turnB (l (k + c + 1)) (l (k + c)) (l k)
            · go_wp2_with fail
              go_meet
              exact ⟨by simp [badB, t1, t2, t3], K3⟩
            go_wp2_with fail
            refine (isLeft_any (l (k + c)) (l k) (l (k + 1)) G3.out G1.out G2.out _).mono ?_
            rintro e v4 ⟨rfl, F4⟩
            have K4 := K3.trans (F4.mono K3.size)
            replace z1 := z1.below F4 z1.lt
            replace z2 := z2.below F4 z2.lt
            replace z3 := z3.below F4 z3.lt
            replace z4 := z4.below F4 z4.lt
            clear g10 g11 g20 g21 g30 g31 g40 g41 l1 l2 l3 l4
            have g10 := z1.cell 0
            have g11 := z1.cell 1
            have g20 := z2.cell 0
            have g21 := z2.cell 1
            have g30 := z3.cell 0
            have g31 := z3.cell 1
            have g40 := z4.cell 0
            have g41 := z4.cell 1
            simp at g10 g11 g20 g21 g30 g31 g40 g41
            have l1 := z1.lt
            have l2 := z2.lt
            have l3 := z3.lt
            have l4 := z4.lt
            cases t4 : turnB (l (k + c)) (l k) (l (k + 1))
            · go_wp2_with fail
              go_meet
              exact ⟨by simp [badB, t1, t2, t3, t4], K4⟩
            go_wp2_with fail
            go_meet
            exact ⟨by simp [badB, t1, t2, t3, t4], K4⟩
          obtain ⟨rfl, hb4⟩ := hcut
          obtain ⟨w4, rfl⟩ : ∃ q : World, q = wc := ⟨_, rfl⟩
          clear z1 z2 z3 z4 g10 g11 g20 g21 g30 g31 g40 g41 l1 l2 l3 l4
          have hrow4 := hrow3.below hb4
          have hbl4 := hbl3.trans (hb4.mono hsz3)
          clear hrow3 hbl3
          have hsz4 := hbl4.size
          have q0 := y0.below hbl4 y0.lt
          have d0 := q0.cell 0
          simp at d0
          have lq := q0.lt
          have L72 := foldSt_len (c := c) (l := l) (y := y) (x := x) (by omega) (by omega) (by omega)
          cases bad : badB c l k
          · have hst := foldSt_no (c := c) (l := l) (y := y) (x := x) (by rw [← HKK.out]; exact bad)
            have HST := Lib.hid hst
            clear hst
            go_wp2_with fail
            go_roundw
            case rel => exact ⟨x + 1, by omega, by go_num, by rw [HST.out]; exact hrow4, hbl4⟩
            case measure => simp [intOf]; omega
          · have hst := foldSt_yes (c := c) (l := l) (y := y) (x := x) (by rw [← HKK.out]; exact bad)
            rw [← HQQ.out] at hst
            have HST := Lib.hid hst
            have hrow5 : Row w4 w2.heap.size 2 1 _ (foldSt c l y x).length (IntC (lst (foldSt c l y (x + 1)))) := hrow4.congr (fun j hj => by rw [HST.out]; exact lst_low (by omega))
            have hone : IntC (lst (foldSt c l y (x + 1))) ((foldSt c l y x).length * 1 + 0) = .int .i64 (q : Int) := by rw [HST.out]; exact lst_top
            have HONE := Lib.hid hone
            clear hst hone
            go_wp2_with (at_builtin; refine wpList_append_row rfl _ _ 24 rfl w2.heap.size 2 i0 _ 1 8 Tryd.underlying24 hi hz0 hz1 hz2 rfl (by decide) _ (foldSt c l y x).length (IntC (lst (foldSt c l y (x + 1)))) rfl (hrow5.alloc _) _ 1 rfl (int_news (by simp) HONE.out) (int_one HONE.out) (by omega) (by omega) (by simp; omega) ?_)
            intro v6 w6 hrow6 hg6
            have hb6 := Row.after (hbl4.alloc hsz4 _) (Nat.le_refl _) (by simp; omega) (hrow5.alloc _) hg6 hrow6
            clear hg6
            go_wp2_with fail
            go_roundw
            case rel => exact ⟨x + 1, by omega, by go_num, by rw [HST.out, List.length_append, ← HST.out]; exact hrow6, hb6⟩
            case measure => simp [intOf]; omega

        · have hC2 : x = c - 1 := by omega
          have HC2 := Lib.hid hC2
          clear hC2
          have hnlt : ¬ (x : Int) < (c : Int) - 1 := by omega
          go_wp2_with fail
          go_roundw
          case rel => exact ⟨y + 1, by omega, by go_num, by have h := hrow; rw [HC2.out, foldSt_row] at h; exact h, hbl⟩
          case measure => simp [intOf]; omega
    · have hR2 : y = r - 1 := by omega
      have HR2 := Lib.hid hR2
      clear hR2
      have hnlt : ¬ (y : Int) < (r : Int) - 1 := by omega
      obtain ⟨A5, c5, rfl, _, hown, hz⟩ := hrow.own
      have hbw := hbw2.trans (hbl.mono hbw2.size)
      have ho2 := hown.mono (base' := w.heap.size) (by omega)
      go_wp2_with fail
      refine bodyPost_ret (v := .tuple #[.slice A5 (foldAll c l y).length c5, .int .i64 0]) (by simp [results, Tryd.results45, go_sem]) rfl ⟨retI ?_ E.out.2.symm ?_ hz, hbw⟩
      · rw [E.out.1, Int.toNat_natCast, Int.toNat_natCast, HR2.out]
      · unfold mFoldedCellsL
        rw [Int.toNat_natCast, Int.toNat_natCast, ← HR2.out]
        exact ho2
theorem turn_le (p q r : SpotD) : (sideV p q r ≤ 0 → turnB p q r = false) ∧ (¬ sideV p q r ≤ 0 → turnB p q r = true) := by
  unfold turnB
  exact ⟨fun h => decide_eq_false (by omega), fun h => decide_eq_true (by omega)⟩
end Go.Proofs.YthjllledhcfnhaaDoor
