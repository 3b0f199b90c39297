/- How far points of two meshes are apart at most. Conditions: the slices read as spots. -/
import Derived.Test.YthjllledhcfnhaaDoorMesh
import Derived.Test.YthjllledhcfnhaaDoorWarpMath
import Derived.Test.YthjllledhcfnhaaDoorRoot
import Derived.Test.YthjllledhcfnhaaDoorMinMax
namespace Go.Proofs.YthjllledhcfnhaaDoor
open Go.RowKit Go.Lib Go.Ks

/-- a spot of the plane -/
def Pl (x y : Int) : Prop := (-2000000 ≤ x ∧ x ≤ 2000000) ∧ (-2000000 ≤ y ∧ y ≤ 2000000)
theorem spotGap_any (x y p q : Int) (h : Pl x y) (h' : Pl p q) (w : World) :
    Calls Tryd.prog 109 #[.agg #[.int .i64 x, .int .i64 y], .agg #[.int .i64 p, .int .i64 q]] w fun e w' => e = .returned (.int .i64 (gapS x y p q)) ∧ Below w.heap.size w w' := by
  obtain ⟨⟨h1, h2⟩, h3, h4⟩ := h
  obtain ⟨⟨h5, h6⟩, h7, h8⟩ := h'
  obtain ⟨⟨g1, g2⟩, ⟨g3, g4⟩, _⟩ := gapS_bd h1 h2 h3 h4 h5 h6 h7 h8
  go_enter Tryd.func109, Tryd.ntmps109
  go_wp2_with fail
  go_ret
  refine ⟨rfl, ?_⟩
  repeat (first | with_reducible exact Below.refl _ _ | with_reducible assumption | with_reducible refine Below.setCell ?_ (by simp <;> omega) _ | with_reducible refine Below.alloc ?_ (by simp <;> omega) _ | with_reducible refine Below.drew ?_)
def gmax (l m : Nat → SpotD) : Nat → Int
  | 0 => 0
  | k + 1 => max (gmax l m k) (gapS (l k).f0 (l k).f1 (m k).f0 (m k).f1)
theorem plane_pl {x y : Int} (h : plane x y = true) : Pl x y := plane_iff.1 h
theorem gap_of {l m : Nat → SpotD} {k : Nat} (h : Pl (l k).f0 (l k).f1) (h' : Pl (m k).f0 (m k).f1) : 0 ≤ gapS (l k).f0 (l k).f1 (m k).f0 (m k).f1 ∧ gapS (l k).f0 (l k).f1 (m k).f0 (m k).f1 ≤ 32000000000000 := by
  obtain ⟨⟨h1, h2⟩, h3, h4⟩ := h
  obtain ⟨⟨h5, h6⟩, h7, h8⟩ := h'
  exact (gapS_bd h1 h2 h3 h4 h5 h6 h7 h8).2.2
theorem gmax_bd {l m : Nat → SpotD} {n : Nat} (h : ∀ k, k < n → plane (l k).f0 (l k).f1 = true) (h' : ∀ k, k < n → plane (m k).f0 (m k).f1 = true) : ∀ k, k ≤ n → 0 ≤ gmax l m k ∧ gmax l m k ≤ 32000000000000
  | 0, _ => ⟨Int.le_refl _, by unfold gmax; omega⟩
  | k + 1, hk => by
    have h1 := gmax_bd h h' k (by omega)
    have h2 := gap_of (plane_pl (h k (by omega))) (plane_pl (h' k (by omega)))
    unfold gmax
    omega
open Classical in
noncomputable def mGreatestV (C R : Int) (n : Nat) (l : Nat → SpotD) (C' R' : Int) (n' : Nat) (m : Nat → SpotD) : Int := if MeshOk C R n l ∧ MeshOk C' R' n' m ∧ C = C' ∧ R = R' then iroot (gmax l m n) else 0
open Classical in
noncomputable def mGreatestC (C R : Int) (n : Nat) (l : Nat → SpotD) (C' R' : Int) (n' : Nat) (m : Nat → SpotD) : Int := if MeshOk C R n l ∧ MeshOk C' R' n' m then (if C = C' ∧ R = R' then 0 else 7) else 1
section
variable {C R C' R' : Int} {n n' : Nat} {l m : Nat → SpotD}
theorem mGreatest_no (h : ¬ (MeshOk C R n l ∧ MeshOk C' R' n' m)) : mGreatestV C R n l C' R' n' m = 0 ∧ mGreatestC C R n l C' R' n' m = 1 := by
  unfold mGreatestV mGreatestC
  exact ⟨if_neg (fun hh => h ⟨hh.1, hh.2.1⟩), if_neg h⟩
theorem mGreatest_odd (h : MeshOk C R n l ∧ MeshOk C' R' n' m) (hne : ¬ (C = C' ∧ R = R')) : mGreatestV C R n l C' R' n' m = 0 ∧ mGreatestC C R n l C' R' n' m = 7 := by
  unfold mGreatestV mGreatestC
  refine ⟨if_neg (fun hh => hne hh.2.2), ?_⟩
  rw [if_pos h, if_neg hne]
theorem mGreatest_ok (h : MeshOk C R n l ∧ MeshOk C' R' n' m) (he : C = C' ∧ R = R') : mGreatestV C R n l C' R' n' m = iroot (gmax l m n) ∧ mGreatestC C R n l C' R' n' m = 0 := by
  unfold mGreatestV mGreatestC
  rw [if_pos ⟨h.1, h.2, he⟩, if_pos h, if_pos he]
  exact ⟨rfl, rfl⟩
end

set_option maxRecDepth 100000 in
set_option maxHeartbeats 4000000 in
theorem implGreatestMove_any (C R : Int) (A : Option Addr) (n c : Nat) (l : Nat → SpotD) (C' R' : Int) (A' : Option Addr) (n' c' : Nat) (m : Nat → SpotD) (w : World) (hn : n ≤ 1048576) (hs : Sl w A (n * 2) (SpotC l)) (_hg : ∀ k, k < n → SpotOk (l k)) (hn' : n' ≤ 1048576) (hs' : Sl w A' (n' * 2) (SpotC m)) (_hg' : ∀ k, k < n' → SpotOk (m k)) :
    Calls Tryd.prog 50 #[.agg #[.int .i64 C, .int .i64 R, .slice A n c], .agg #[.int .i64 C', .int .i64 R', .slice A' n' c']] w fun e w' => e = .returned (.tuple #[.int .i64 (mGreatestV C R n l C' R' n' m), .int .i64 (mGreatestC C R n l C' R' n' m)]) ∧ Below w.heap.size w w' := by
  have hne1 : (n : Int) ≤ 1048576 := by omega
  go_enter Tryd.func50, Tryd.ntmps50
  go_wp2_with fail
  generalize hW : World.alloc (World.alloc w _) _ = w1
  have hb1 : Below w.heap.size w w1 := by rw [← hW]; repeat (first | with_reducible exact Below.refl _ _ | with_reducible assumption | with_reducible refine Below.setCell ?_ (by simp <;> omega) _ | with_reducible refine Below.alloc ?_ (by simp <;> omega) _ | with_reducible refine Below.drew ?_)
  have x0 : Blk w1 w.heap.size 69 #[.int .i64 C, .int .i64 R, .slice A n c] := by rw [← hW]; exact (Blk.new w _ _).alloc _
  have x1 : Blk w1 (w.heap.size + 1) 69 #[.int .i64 C', .int .i64 R', .slice A' n' c'] := by
    have h := Blk.new (w.alloc (.cells #[.int .i64 C, .int .i64 R, .slice A n c] 69)) 69 #[.int .i64 C', .int .i64 R', .slice A' n' c']
    rw [hW] at h
    simpa using h
  clear hW
  have a0 := x0.cell 0
  have a1 := x0.cell 1
  have a2 := x0.cell 2
  simp at a0 a1 a2
  have la := x0.lt
  refine (validMesh_any C R _ n c l _ hn (hs.below hb1)).mono ?_
  rintro e w2 ⟨rfl, hb2⟩
  have hbw2 := hb1.trans (hb2.mono hb1.size)
  cases ok : meshOk C R n l
  · have E := Lib.hid (mGreatest_no (C := C) (R := R) (n := n) (l := l) (C' := C') (R' := R') (n' := n') (m := m) (fun h => by rw [meshOk_yes h.1] at ok; cases ok))
    go_wp2_with fail
    go_ret2
    exact ⟨ret_tup E.out.1.symm E.out.2.symm, hbw2⟩
  have OK := meshOk_of ok
  clear ok
  have x1' := x1.below hb2 x1.lt
  have x0' := x0.below hb2 x0.lt
  clear a0 a1 a2
  have b0 := x1'.cell 0
  have b1 := x1'.cell 1
  have b2 := x1'.cell 2
  simp at b0 b1 b2
  have lb := x1'.lt
  go_wp2_with fail
  refine (validMesh_any C' R' _ n' c' m _ hn' (hs'.below hbw2)).mono ?_
  rintro e w3 ⟨rfl, hb3⟩
  have hbw3 := hbw2.trans (hb3.mono hbw2.size)
  cases ok : meshOk C' R' n' m
  · have E := Lib.hid (mGreatest_no (C := C) (R := R) (n := n) (l := l) (C' := C') (R' := R') (n' := n') (m := m) (fun h => by rw [meshOk_yes h.2] at ok; cases ok))
    go_wp2_with fail
    go_ret2
    exact ⟨ret_tup E.out.1.symm E.out.2.symm, hbw3⟩
  have OK' := meshOk_of ok
  clear ok x0 x1 b0 b1 b2
  have x0 := x0'.below hb3 x0'.lt
  have x1 := x1'.below hb3 x1'.lt
  clear x0' x1'
  have m0 := x0.cell 0
  have m1 := x0.cell 1
  have m2 := x0.cell 2
  have n0 := x1.cell 0
  have n1 := x1.cell 1
  have n2 := x1.cell 2
  simp at m0 m1 m2 n0 n1 n2
  by_cases hC : C = C'
  rotate_left
  · have E := Lib.hid (mGreatest_odd ⟨OK, OK'⟩ (fun h => hC h.1))
    have hd1 : (C == C') = false := by simpa using hC
    have hd2 : (C != C') = true := by simpa using hC
    go_wp2_with fail
    go_ret2
    exact ⟨ret_tup E.out.1.symm E.out.2.symm, hbw3⟩
  by_cases hR : R = R'
  rotate_left
  · have E := Lib.hid (mGreatest_odd ⟨OK, OK'⟩ (fun h => hR h.2))
    subst hC
    have hd1 : (R == R') = false := by simpa using hR
    have hd2 : (R != R') = true := by simpa using hR
    go_wp2_with fail
    go_ret2
    exact ⟨ret_tup E.out.1.symm E.out.2.symm, hbw3⟩
  have E := Lib.hid (mGreatest_ok ⟨OK, OK'⟩ ⟨hC, hR⟩)
  subst hC
  subst hR
  obtain ⟨⟨_, _⟩, ⟨_, _⟩, hnC, hpl⟩ := OK
  obtain ⟨⟨_, _⟩, ⟨_, _⟩, hnC', hpl'⟩ := OK'
  have hnn : n = n' := by omega
  subst hnn
  have GB := Lib.hid (gmax_bd hpl hpl')
  have HPL := Lib.hid hpl
  have HPL' := Lib.hid hpl'
  clear hnC hnC' hpl hpl'
  go_wp2_with fail
  go_loopw [6, 31] (fun a b wr => ∃ k : Nat, k ≤ n ∧ b = .int .i64 k ∧ a = .int .i64 (gmax l m k) ∧ Below w3.heap.size w3 wr) (fun _ b _ => n - (intOf b).toNat)
  case atStart => exact ⟨0, Nat.zero_le _, rfl, rfl, Below.refl _ _⟩
  case round =>
    obtain ⟨k, hk, rfl, rfl, hbl⟩ := hrel
    have gb := GB.out k hk
    obtain ⟨gb1, gb2⟩ := gb
    have y0 := x0.below hbl x0.lt
    have y1 := x1.below hbl x1.lt
    have o2 := y0.cell 2
    have p2 := y1.cell 2
    simp at o2 p2
    have ly0 := y0.lt
    have ly1 := y1.lt
    have hbw := hbw3.trans (hbl.mono hbw3.size)
    by_cases hlt : k < n
    · obtain ⟨b, off, rfl, hb, hc⟩ := hs (by omega)
      obtain ⟨b', off', rfl, hb', hc'⟩ := hs' (by omega)
      have hbr : b < wr.heap.size := by have := hbw.size; omega
      have hbr' : b' < wr.heap.size := by have := hbw.size; omega
      have d0 : wr.cell? ⟨b, off + k * 2, none⟩ = some (.int .i64 (l k).f0) := by rw [hbw.cell (by exact hb), hc _ (by omega), SpotC0]
      have d1 : wr.cell? ⟨b, off + k * 2 + 1, none⟩ = some (.int .i64 (l k).f1) := by rw [hbw.cell (by exact hb), Nat.add_assoc, hc _ (by omega), SpotC1]
      have e0 : wr.cell? ⟨b', off' + k * 2, none⟩ = some (.int .i64 (m k).f0) := by rw [hbw.cell (by exact hb'), hc' _ (by omega), SpotC0]
      have e1 : wr.cell? ⟨b', off' + k * 2 + 1, none⟩ = some (.int .i64 (m k).f1) := by rw [hbw.cell (by exact hb'), Nat.add_assoc, hc' _ (by omega), SpotC1]
      clear hc hc'
      have pk : Pl (l k).f0 (l k).f1 := plane_pl (HPL.out k hlt)
      have pk' : Pl (m k).f0 (m k).f1 := plane_pl (HPL'.out k hlt)
      have PK := Lib.hid pk
      have PK' := Lib.hid pk'
      clear pk pk'
      have mx : ∀ x : Int, x = gmax l m k ∧ gapS (l k).f0 (l k).f1 (m k).f0 (m k).f1 ≤ x ∨ x = gapS (l k).f0 (l k).f1 (m k).f0 (m k).f1 ∧ gmax l m k ≤ x → x = gmax l m (k + 1) := fun x hx => by unfold gmax; omega
      have MX := Lib.hid mx
      clear mx
      go_wp2_with fail
      refine wp_region_ext (by kernel_rfl) (by kernel_rfl) ?_
      repeat (go_big_quiet_step ((first | (go_at_call 109; exact quiet_ext (spotGap_any _ _ _ _ PK.out PK'.out _)))))
      refine wpQuiet_nil ?_
      intro e2
      have hb4 := hbl.trans (e2.below.mono hbl.size)
      go_wp2_with fail
      all_goals
        go_roundw
        case rel => exact ⟨k + 1, by omega, by go_num, ret_num (MX.out _ (by omega)), hb4⟩
        case measure => simp [intOf]; omega
    · obtain rfl : k = n := by omega
      go_wp2_with fail
      refine (rootOf_eq _ (by omega) _).mono ?_
      rintro e w5 ⟨rfl, rfl⟩
      go_wp2_with fail
      go_ret2
      exact ⟨ret_tup E.out.1.symm E.out.2.symm, hbw⟩
end Go.Proofs.YthjllledhcfnhaaDoor
