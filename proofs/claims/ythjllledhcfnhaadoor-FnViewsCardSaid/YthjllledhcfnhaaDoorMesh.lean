/- Meshes: validity. Conditions: the slice reads as n spots. -/
import Derived.Test.YthjllledhcfnhaaDoorSmall
import Derived.Test.YthjllledhcfnhaaDoorSmallEq
import Derived.Test.YthjllledhcfnhaaDoorMath
import Derived.Lib.BufferOwn
import Derived.Test.YthjllledhcfnhaaDoorRows
import Derived.Test.YthjllledhcfnhaaDoorAppend
import Derived.Lib.SliceRun
namespace Go.Proofs.YthjllledhcfnhaaDoor
open Go.RowKit Go.Lib Go.Ks

theorem Tryd.infoC81 : (Tryd.prog.info? 81).map (fun i => (i.zero, i.size, i.bytes)) = some (some (.agg #[.int .i64 0, .int .i64 0]), 2, 16) := by kernel_rfl
theorem oneSpot (l : Nat → SpotD) (j : Nat) : (SpotC l j).oneCell' = true := by
  unfold SpotC rc
  have hj : j % 2 < 2 := Nat.mod_lt _ (by decide)
  generalize j % 2 = m at hj
  match m, hj with
  | 0, _ => rfl
  | 1, _ => rfl

set_option maxHeartbeats 800000 in
theorem cloneSpot_any (A : Option Addr) (n c : Nat) (l : Nat → SpotD) (w : World) (hn : n ≤ 1048576) (hpos : 0 < n) (hs : Sl w A (n * 2) (SpotC l)) :
    Calls Tryd.prog 101 #[.slice A n c] w fun e w' => (∃ A' c', e = .returned (.slice A' n c') ∧ Own w' w.heap.size 81 2 A' n (SpotC l) ∧ (A' = none → c' = 0)) ∧ Below w.heap.size w w' := by
  obtain ⟨b, off, rfl, hb, hc⟩ := hs (by omega)
  obtain ⟨i0, hi, hz0, hz1, hz2⟩ := info_parts Tryd.infoC81
  have heq := fun W => Lib.run_eql_slice_nil (P := Tryd.prog) W 67 81 (some ⟨b, off, none⟩) n c 0 0 Tryd.underlying67
  have HC := Lib.hid hc
  clear hc
  go_enter Tryd.func101, Tryd.ntmps101
  go_wp2_with (at_builtin; refine wpList_append_all rfl _ _ 67 rfl w.heap.size 81 i0 _ 2 16 Tryd.underlying67 hi hz0 hz1 hz2 rfl (by decide) _ (SpotC l) rfl (Row.empty _ _ _ _ (Nat.le_refl _)) b off n c rfl ?c1 (fun j _ => oneSpot l j) ?c3 ?c4 ?c5 ?_)
  case c1 => intro j hj; rw [World.cell?_alloc_past (n := b) (i := off + j) _ (by exact hb)]; exact HC.out j hj
  case c3 => omega
  case c4 => omega
  case c5 => simp
  intro v' w5 hrow5 hg5
  have hbl5 : Below w.heap.size w w5 := ((Below.refl w.heap.size w).alloc (Nat.le_refl _) _).grown hg5 (by simp) (fun k hk => by simp [Value.ownBlock] at hk; omega)
  obtain ⟨A', c', rfl, _, hown, hz⟩ := hrow5.own
  clear hg5
  go_wp2_with fail
  go_ret
  exact ⟨⟨A', c', rfl, hown, hz⟩, hbl5⟩

end Go.Proofs.YthjllledhcfnhaaDoor
namespace Go.Proofs.YthjllledhcfnhaaDoor
open Go.RowKit Go.Lib Go.Ks

/-- a mesh -/
abbrev meshV (C R : Int) (A : Option Addr) (n c : Nat) : Value := .agg #[.int .i64 C, .int .i64 R, .slice A n c]
/-- a mesh of the call's own and a code -/
def RetM (w w' : World) (C R : Int) (n : Nat) (f : Nat → Value) (code : Int) (r : Ending) : Prop :=
  ∃ A c, r = .returned (.tuple #[.agg #[.int .i64 C, .int .i64 R, .slice A n c], .int .i64 code]) ∧ Own w' w.heap.size 81 2 A n f ∧ (A = none → c = 0)

end Go.Proofs.YthjllledhcfnhaaDoor
namespace Go.Proofs.YthjllledhcfnhaaDoor
open Go.RowKit Go.Lib Go.Ks

def plane (x y : Int) : Bool := inB x (-2000000) 2000000 && inB y (-2000000) 2000000
theorem plane_no1 {x y : Int} (h : inB x (-2000000) 2000000 = false) : plane x y = false := by simp [plane, h]
theorem plane_no2 {x y : Int} (h : inB x (-2000000) 2000000 = true) : plane x y = inB y (-2000000) 2000000 := by simp [plane, h]
theorem plane_iff {x y : Int} : plane x y = true ↔ (-2000000 ≤ x ∧ x ≤ 2000000) ∧ (-2000000 ≤ y ∧ y ≤ 2000000) := by simp [plane, inB_iff]
def MeshOk (C R : Int) (n : Nat) (l : Nat → SpotD) : Prop := (2 ≤ C ∧ C ≤ 9) ∧ (2 ≤ R ∧ R ≤ 9) ∧ (n : Int) = C * R ∧ ∀ k, k < n → plane (l k).f0 (l k).f1 = true
open Classical in
noncomputable def meshOk (C R : Int) (n : Nat) (l : Nat → SpotD) : Bool := decide (MeshOk C R n l)
theorem meshOk_no {C R : Int} {n : Nat} {l : Nat → SpotD} (h : ¬ MeshOk C R n l) : meshOk C R n l = false := by simp [meshOk, h]
theorem meshOk_yes {C R : Int} {n : Nat} {l : Nat → SpotD} (h : MeshOk C R n l) : meshOk C R n l = true := by simp [meshOk, h]
theorem meshOk_of {C R : Int} {n : Nat} {l : Nat → SpotD} (h : meshOk C R n l = true) : MeshOk C R n l := by simpa [meshOk] using h
/-- a mesh behind a pointer -/
def MeshP (w : World) (b : Nat) (C R : Int) (A : Option Addr) (n c : Nat) : Prop :=
  b < w.heap.size ∧ w.cell? ⟨b, 0, none⟩ = some (.int .i64 C) ∧ w.cell? ⟨b, 1, none⟩ = some (.int .i64 R) ∧ w.cell? ⟨b, 2, none⟩ = some (.slice A n c)
theorem MeshP.below {w w' : World} {b : Nat} {C R : Int} {A : Option Addr} {n c : Nat} (h : MeshP w b C R A n c) (hb : Below w.heap.size w w') : MeshP w' b C R A n c :=
  ⟨Nat.lt_of_lt_of_le h.1 hb.size, (hb.cell (p := ⟨b, 0, none⟩) h.1).trans h.2.1, (hb.cell (p := ⟨b, 1, none⟩) h.1).trans h.2.2.1, (hb.cell (p := ⟨b, 2, none⟩) h.1).trans h.2.2.2⟩
theorem MeshP.new (w : World) (t : TypeId) (C R : Int) (A : Option Addr) (n c : Nat) : MeshP (w.alloc (.cells #[.int .i64 C, .int .i64 R, .slice A n c] t)) w.heap.size C R A n c := by
  have h := Blk.new w t #[.int .i64 C, .int .i64 R, .slice A n c]
  exact ⟨h.lt, h.cell 0, h.cell 1, h.cell 2⟩

theorem inPlane_any (x y : Int) (w : World) :
    Calls Tryd.prog 108 #[.agg #[.int .i64 x, .int .i64 y]] w fun e w' => e = .returned (.bool (plane x y)) ∧ Below w.heap.size w w' := by
  cases q : inB x (-2000000) 2000000
  · have E := Lib.hid (plane_no1 (y := y) q)
    go_enter Tryd.func108, Tryd.ntmps108
    go_wp2_with fail
    refine (within_eq _ _ _ _).mono ?_
    rintro e w1 ⟨rfl, rfl⟩
    go_wp2_with fail
    go_ret
    refine ⟨ret_bool E.out.symm, ?_⟩
    repeat (first | with_reducible exact Below.refl _ _ | with_reducible assumption | with_reducible refine Below.setCell ?_ (by simp <;> omega) _ | with_reducible refine Below.alloc ?_ (by simp <;> omega) _ | with_reducible refine Below.drew ?_)
  · have E := Lib.hid (plane_no2 (y := y) q)
    go_enter Tryd.func108, Tryd.ntmps108
    go_wp2_with fail
    refine (within_eq _ _ _ _).mono ?_
    rintro e w1 ⟨rfl, rfl⟩
    go_wp2_with fail
    refine (within_eq _ _ _ _).mono ?_
    rintro e w1 ⟨rfl, rfl⟩
    go_wp2_with fail
    go_ret
    refine ⟨ret_bool E.out.symm, ?_⟩
    repeat (first | with_reducible exact Below.refl _ _ | with_reducible assumption | with_reducible refine Below.setCell ?_ (by simp <;> omega) _ | with_reducible refine Below.alloc ?_ (by simp <;> omega) _ | with_reducible refine Below.drew ?_)

theorem l11Spot_any (x y : Int) (w : World) :
    Calls Tryd.prog 138 #[.agg #[.int .i64 x, .int .i64 y]] w fun e w' => e = .returned (.bool (plane x y)) ∧ Below w.heap.size w w' := by
  cases q : inB x (-2000000) 2000000
  · have E := Lib.hid (plane_no1 (y := y) q)
    go_enter Tryd.func138, Tryd.ntmps138
    go_wp2_with fail
    refine (l00In_eq _ _ _ _).mono ?_
    rintro e w1 ⟨rfl, rfl⟩
    go_wp2_with fail
    go_ret
    refine ⟨ret_bool E.out.symm, ?_⟩
    repeat (first | with_reducible exact Below.refl _ _ | with_reducible assumption | with_reducible refine Below.setCell ?_ (by simp <;> omega) _ | with_reducible refine Below.alloc ?_ (by simp <;> omega) _ | with_reducible refine Below.drew ?_)
  · have E := Lib.hid (plane_no2 (y := y) q)
    go_enter Tryd.func138, Tryd.ntmps138
    go_wp2_with fail
    refine (l00In_eq _ _ _ _).mono ?_
    rintro e w1 ⟨rfl, rfl⟩
    go_wp2_with fail
    refine (l00In_eq _ _ _ _).mono ?_
    rintro e w1 ⟨rfl, rfl⟩
    go_wp2_with fail
    go_ret
    refine ⟨ret_bool E.out.symm, ?_⟩
    repeat (first | with_reducible exact Below.refl _ _ | with_reducible assumption | with_reducible refine Below.setCell ?_ (by simp <;> omega) _ | with_reducible refine Below.alloc ?_ (by simp <;> omega) _ | with_reducible refine Below.drew ?_)

set_option maxHeartbeats 2000000 in
theorem validMesh_any (C R : Int) (A : Option Addr) (n c : Nat) (l : Nat → SpotD) (w : World) (hn : n ≤ 1048576) (hs : Sl w A (n * 2) (SpotC l)) :
    Calls Tryd.prog 100 #[.agg #[.int .i64 C, .int .i64 R, .slice A n c]] w fun e w' => e = .returned (.bool (meshOk C R n l)) ∧ Below w.heap.size w w' := by
  have hn3 : (n : Int) ≤ 1048576 := by omega
  cases i1 : inB C 2 9
  · have E := Lib.hid (meshOk_no (C := C) (R := R) (n := n) (l := l) (fun h => inB_no.1 i1 h.1))
    go_enter Tryd.func100, Tryd.ntmps100
    go_wp2_with fail
    refine (within_eq _ _ _ _).mono ?_
    rintro e w1 ⟨rfl, rfl⟩
    go_wp2_with fail
    go_ret
    refine ⟨ret_bool E.out.symm, ?_⟩
    repeat (first | with_reducible exact Below.refl _ _ | with_reducible assumption | with_reducible refine Below.setCell ?_ (by simp <;> omega) _ | with_reducible refine Below.alloc ?_ (by simp <;> omega) _ | with_reducible refine Below.drew ?_)
  cases i2 : inB R 2 9
  · have E := Lib.hid (meshOk_no (C := C) (R := R) (n := n) (l := l) (fun h => inB_no.1 i2 h.2.1))
    go_enter Tryd.func100, Tryd.ntmps100
    go_wp2_with fail
    refine (within_eq _ _ _ _).mono ?_
    rintro e w1 ⟨rfl, rfl⟩
    go_wp2_with fail
    refine (within_eq _ _ _ _).mono ?_
    rintro e w1 ⟨rfl, rfl⟩
    go_wp2_with fail
    go_ret
    refine ⟨ret_bool E.out.symm, ?_⟩
    repeat (first | with_reducible exact Below.refl _ _ | with_reducible assumption | with_reducible refine Below.setCell ?_ (by simp <;> omega) _ | with_reducible refine Below.alloc ?_ (by simp <;> omega) _ | with_reducible refine Below.drew ?_)
  have r1 := inB_iff.1 i1
  have r2 := inB_iff.1 i2
  obtain ⟨r1a, r1b⟩ := r1
  obtain ⟨r2a, r2b⟩ := r2
  have pm := mul_bd (a := C) (b := R) (m := 9) (n := 9) (by omega) (by omega) (by omega) (by omega) (by omega)
  obtain ⟨pm1, pm2⟩ := pm
  by_cases hp : (n : Int) = C * R
  rotate_left
  · have E := Lib.hid (meshOk_no (C := C) (R := R) (n := n) (l := l) (fun h => hp h.2.2.1))
    go_enter Tryd.func100, Tryd.ntmps100
    go_wp2_with fail
    refine (within_eq _ _ _ _).mono ?_
    rintro e w1 ⟨rfl, rfl⟩
    go_wp2_with fail
    refine (within_eq _ _ _ _).mono ?_
    rintro e w1 ⟨rfl, rfl⟩
    go_wp2_with fail
    go_ret
    refine ⟨ret_bool E.out.symm, ?_⟩
    repeat (first | with_reducible exact Below.refl _ _ | with_reducible assumption | with_reducible refine Below.setCell ?_ (by simp <;> omega) _ | with_reducible refine Below.alloc ?_ (by simp <;> omega) _ | with_reducible refine Below.drew ?_)
  have HP := Lib.hid hp
  go_enter Tryd.func100, Tryd.ntmps100
  go_wp2_with fail
  refine (within_eq _ _ _ _).mono ?_
  rintro e w1 ⟨rfl, rfl⟩
  go_wp2_with fail
  refine (within_eq _ _ _ _).mono ?_
  rintro e w1 ⟨rfl, rfl⟩
  go_wp2_with fail
  clear hp
  obtain ⟨wo, hwo⟩ : ∃ wo : World, wo = w.alloc (.cells #[.int .i64 C, .int .i64 R, .slice A n c] 69) := ⟨_, rfl⟩
  have hbo : Below w.heap.size w wo := by
    rw [hwo]
    repeat (first | with_reducible exact Below.refl _ _ | with_reducible assumption | with_reducible refine Below.setCell ?_ (by simp <;> omega) _ | with_reducible refine Below.alloc ?_ (by simp <;> omega) _ | with_reducible refine Below.drew ?_)
  rw [← hwo]
  clear hwo
  go_loopw [4, 29] (fun p i wr => ∃ k : Nat, k ≤ n ∧ i = .int .i64 k ∧ Below w.heap.size w wr ∧ ∀ j, j < k → plane (l j).f0 (l j).f1 = true) (fun _ i _ => n - (intOf i).toNat)
  case atStart => exact ⟨0, Nat.zero_le _, rfl, hbo, fun j hj => absurd hj (by omega)⟩
  case round =>
    obtain ⟨k, hk, rfl, hbl, hall⟩ := hrel
    have HALL := Lib.hid hall
    clear hall
    by_cases hlt : k < n
    · obtain ⟨b, off, rfl, hb, hc⟩ := hs (by omega)
      have hbr : b < wr.heap.size := by have := hbl.size; omega
      have d0 : wr.cell? ⟨b, off + k * 2, none⟩ = some (.int .i64 (l k).f0) := by rw [hbl.cell (by exact hb), hc _ (by omega), SpotC0]
      have d1 : wr.cell? ⟨b, off + k * 2 + 1, none⟩ = some (.int .i64 (l k).f1) := by rw [hbl.cell (by exact hb), Nat.add_assoc, hc _ (by omega), SpotC1]
      clear hc
      have hlt' : (k : Int) < C * R := by have := HP.out; omega
      have hal : Below w.heap.size w (wr.alloc (.cells #[.int .i64 (l k).f0, .int .i64 (l k).f1] 81)) := hbl.alloc hbl.size _
      go_wp2_with fail
      refine (inPlane_any _ _ _).mono ?_
      rintro e w1 ⟨rfl, hb1⟩
      have hal2 := hal.trans (hb1.mono hal.size)
      cases q : plane (l k).f0 (l k).f1
      · have E := Lib.hid (meshOk_no (C := C) (R := R) (n := n) (l := l) (fun h => by have := h.2.2.2 k hlt; rw [q] at this; cases this))
        go_wp2_with fail
        go_ret
        exact ⟨ret_bool E.out.symm, hal2⟩
      · go_wp2_with fail
        go_roundw
        case rel => exact ⟨k + 1, by omega, by go_num, hal2, okAll HALL.out q⟩
        case measure => simp [intOf]; omega
    · have E := Lib.hid (meshOk_yes (C := C) (R := R) (n := n) (l := l) ⟨⟨r1a, r1b⟩, ⟨r2a, r2b⟩, HP.out, fun j hj => HALL.out j (by omega)⟩)
      have hge : ¬ (k : Int) < C * R := by have := HP.out; omega
      go_wp2_with fail
      go_ret
      exact ⟨ret_bool E.out.symm, hbl⟩

set_option maxHeartbeats 2000000 in
theorem l11Ok_any (B : Nat) (C R : Int) (A : Option Addr) (n c : Nat) (l : Nat → SpotD) (w : World) (hn : n ≤ 1048576) (hs : Sl w A (n * 2) (SpotC l)) (hm : MeshP w B C R A n c) :
    Calls Tryd.prog 98 #[.pointer (some ⟨B, 0, none⟩)] w fun e w' => e = .returned (.bool (meshOk C R n l)) ∧ Below w.heap.size w w' := by
  have hn3 : (n : Int) ≤ 1048576 := by omega
  have hm0 := hm
  obtain ⟨mb, m0, m1, m2⟩ := hm
  cases i1 : inB C 2 9
  · have E := Lib.hid (meshOk_no (C := C) (R := R) (n := n) (l := l) (fun h => inB_no.1 i1 h.1))
    go_enter Tryd.func98, Tryd.ntmps98
    go_wp2_with fail
    refine wp_region_ext (by kernel_rfl) (by kernel_rfl) ?_
    repeat (go_big_quiet_step ((go_at_call 56; exact quiet_ext (l00In_any _ _ _ _))))
    refine wpQuiet_nil ?_
    intro e1
    have hb1 := e1.below
    go_wp2_with fail
    go_ret
    exact ⟨ret_bool E.out.symm, hb1⟩
  cases i2 : inB R 2 9
  · have E := Lib.hid (meshOk_no (C := C) (R := R) (n := n) (l := l) (fun h => inB_no.1 i2 h.2.1))
    go_enter Tryd.func98, Tryd.ntmps98
    go_wp2_with fail
    refine wp_region_ext (by kernel_rfl) (by kernel_rfl) ?_
    repeat (go_big_quiet_step ((go_at_call 56; exact quiet_ext (l00In_any _ _ _ _))))
    refine wpQuiet_nil ?_
    intro e1
    have hb1 := e1.below
    go_wp2_with fail
    go_ret
    exact ⟨ret_bool E.out.symm, hb1⟩
  have r1 := inB_iff.1 i1
  have r2 := inB_iff.1 i2
  obtain ⟨r1a, r1b⟩ := r1
  obtain ⟨r2a, r2b⟩ := r2
  have pm := mul_bd (a := C) (b := R) (m := 9) (n := 9) (by omega) (by omega) (by omega) (by omega) (by omega)
  obtain ⟨pm1, pm2⟩ := pm
  by_cases hp : (n : Int) = C * R
  rotate_left
  · have E := Lib.hid (meshOk_no (C := C) (R := R) (n := n) (l := l) (fun h => hp h.2.2.1))
    have hd : decide ((n : Int) = C * R) = false := by simpa using hp
    go_enter Tryd.func98, Tryd.ntmps98
    go_wp2_with fail
    refine wp_region_ext (by kernel_rfl) (by kernel_rfl) ?_
    repeat (go_big_quiet_step ((go_at_call 56; exact quiet_ext (l00In_any _ _ _ _))))
    refine wpQuiet_nil ?_
    intro e1
    have hb1 := e1.below
    go_wp2_with fail
    go_ret
    exact ⟨ret_bool E.out.symm, hb1⟩
  have HP := Lib.hid hp
  have hd : decide ((n : Int) = C * R) = true := by simpa using hp
  go_enter Tryd.func98, Tryd.ntmps98
  go_wp2_with fail
  refine wp_region_ext (by kernel_rfl) (by kernel_rfl) ?_
  repeat (go_big_quiet_step ((go_at_call 56; exact quiet_ext (l00In_any _ _ _ _))))
  refine wpQuiet_nil ?_
  intro e1
  have hb1 := e1.below
  go_wp2_with fail
  clear hp hd i1 i2
  obtain ⟨wo, hwo⟩ : ∃ wo : World, wo = e1.val := ⟨_, rfl⟩
  rw [← hwo] at hb1 ⊢
  clear hwo
  go_loopw [3] (fun i wr => ∃ k : Nat, k ≤ n ∧ i = .int .i64 k ∧ Below w.heap.size w wr ∧ ∀ j, j < k → plane (l j).f0 (l j).f1 = true) (fun i _ => n - (intOf i).toNat)
  case atStart => exact ⟨0, Nat.zero_le _, rfl, hb1, fun j hj => absurd hj (by omega)⟩
  case round =>
    obtain ⟨k, hk, rfl, hbl, hall⟩ := hrel
    have HALL := Lib.hid hall
    clear hall
    have hmr := hm0.below hbl
    obtain ⟨mbr, n0, n1, n2⟩ := hmr
    by_cases hlt : k < n
    · obtain ⟨b, off, rfl, hb, hc⟩ := hs (by omega)
      have hbr : b < wr.heap.size := by have := hbl.size; omega
      have d0 : wr.cell? ⟨b, off + k * 2, none⟩ = some (.int .i64 (l k).f0) := by rw [hbl.cell (by exact hb), hc _ (by omega), SpotC0]
      have d1 : wr.cell? ⟨b, off + k * 2 + 1, none⟩ = some (.int .i64 (l k).f1) := by rw [hbl.cell (by exact hb), Nat.add_assoc, hc _ (by omega), SpotC1]
      clear hc
      go_wp2_with fail
      refine (l11Spot_any _ _ _).mono ?_
      rintro e w1 ⟨rfl, hb1⟩
      have hal2 := hbl.trans (hb1.mono hbl.size)
      cases q : plane (l k).f0 (l k).f1
      · have E := Lib.hid (meshOk_no (C := C) (R := R) (n := n) (l := l) (fun h => by have := h.2.2.2 k hlt; rw [q] at this; cases this))
        go_wp2_with fail
        go_ret
        exact ⟨ret_bool E.out.symm, hal2⟩
      · go_wp2_with fail
        go_roundw
        case rel => exact ⟨k + 1, by omega, by go_num, hal2, okAll HALL.out q⟩
        case measure => simp [intOf]; omega
    · have E := Lib.hid (meshOk_yes (C := C) (R := R) (n := n) (l := l) ⟨⟨r1a, r1b⟩, ⟨r2a, r2b⟩, HP.out, fun j hj => HALL.out j (by omega)⟩)
      go_wp2_with fail
      go_ret
      exact ⟨ret_bool E.out.symm, hbl⟩

theorem specValidMesh_any (C R : Int) (A : Option Addr) (n c : Nat) (l : Nat → SpotD) (w : World) (hn : n ≤ 1048576) (hs : Sl w A (n * 2) (SpotC l)) (_hg : ∀ k, k < n → SpotOk (l k)) :
    Calls Tryd.prog 53 #[.agg #[.int .i64 C, .int .i64 R, .slice A n c]] w fun e w' => e = .returned (.bool (meshOk C R n l)) ∧ Below w.heap.size w w' := by
  go_enter Tryd.func53, Tryd.ntmps53
  go_wp2_with fail
  refine (l11Ok_any _ C R _ n c l _ hn (hs.below (by repeat (first | with_reducible exact Below.refl _ _ | with_reducible assumption | with_reducible refine Below.setCell ?_ (by simp <;> omega) _ | with_reducible refine Below.alloc ?_ (by simp <;> omega) _ | with_reducible refine Below.drew ?_))) (MeshP.new _ _ _ _ _ _ _)).mono ?_
  rintro e w1 ⟨rfl, hb1⟩
  have hbw : Below w.heap.size w w1 := (by repeat (first | with_reducible exact Below.refl _ _ | with_reducible assumption | with_reducible refine Below.setCell ?_ (by simp <;> omega) _ | with_reducible refine Below.alloc ?_ (by simp <;> omega) _ | with_reducible refine Below.drew ?_) : Below w.heap.size w _).trans (hb1.mono (by simp; try omega))
  go_wp2_with fail
  go_ret
  exact ⟨rfl, hbw⟩
theorem implValidMesh_any (C R : Int) (A : Option Addr) (n c : Nat) (l : Nat → SpotD) (w : World) (hn : n ≤ 1048576) (hs : Sl w A (n * 2) (SpotC l)) (_hg : ∀ k, k < n → SpotOk (l k)) :
    Calls Tryd.prog 100 #[.agg #[.int .i64 C, .int .i64 R, .slice A n c]] w fun e w' => e = .returned (.bool (meshOk C R n l)) ∧ Below w.heap.size w w' := validMesh_any C R A n c l w hn hs
end Go.Proofs.YthjllledhcfnhaaDoor
