/- CurveAt and CurveBack of the reference and of the program. Conditions: the slice reads as n knots, n up to 2^20. -/
import Derived.Test.YthjllledhcfnhaaGreatDoorCurveAt
import Derived.Test.YthjllledhcfnhaaGreatDoorOwn
namespace Go.Proofs.YthjllledhcfnhaaGreatDoor
open Go.RowKit Go.Lib Go.Ks

noncomputable def cAt0 (n : Nat) (l : Nat → KnotD) (x : Int) : Int := if curveOk n l = true ∧ inB x 0 1000 = true then curveVal n l x else 0
noncomputable def cAt1 (n : Nat) (l : Nat → KnotD) (x : Int) : Int := if curveOk n l = true then (if inB x 0 1000 = true then 0 else 2) else 1
theorem cAt_bad {n : Nat} {l : Nat → KnotD} {x : Int} (h : curveOk n l = false) : cAt0 n l x = 0 ∧ cAt1 n l x = 1 := by simp [cAt0, cAt1, h]
theorem cAt_out {n : Nat} {l : Nat → KnotD} {x : Int} (h : curveOk n l = true) (h' : inB x 0 1000 = false) : cAt0 n l x = 0 ∧ cAt1 n l x = 2 := by simp [cAt0, cAt1, h, h']
theorem cAt_in {n : Nat} {l : Nat → KnotD} {x : Int} (h : curveOk n l = true) (h' : inB x 0 1000 = true) : cAt0 n l x = curveVal n l x ∧ cAt1 n l x = 0 := by simp [cAt0, cAt1, h, h']
/-- the least level at which a curve reaches y -/
def IsBack (n : Nat) (l : Nat → KnotD) (y : Int) (x : Nat) : Prop := x ≤ 1000 ∧ y ≤ curveVal n l x ∧ ∀ z : Nat, z < x → curveVal n l z < y
theorem IsBack.uniq {n : Nat} {l : Nat → KnotD} {y : Int} {i j : Nat} (h : IsBack n l y i) (h' : IsBack n l y j) : i = j := by
  rcases Nat.lt_trichotomy i j with hl | hl | hl
  · have := h'.2.2 i hl; have := h.2.1; omega
  · exact hl
  · have := h.2.2 j hl; have := h'.2.1; omega
open Classical in
noncomputable def backVal (n : Nat) (l : Nat → KnotD) (y : Int) : Int := if h : ∃ x, IsBack n l y x then (Classical.choose h : Nat) else 0
open Classical in
noncomputable def backCode (n : Nat) (l : Nat → KnotD) (y : Int) : Int := if ∃ x, IsBack n l y x then 0 else 3
theorem back_eq {n : Nat} {l : Nat → KnotD} {y : Int} {x : Nat} (h : IsBack n l y x) : backVal n l y = x ∧ backCode n l y = 0 := by
  have he : ∃ x, IsBack n l y x := ⟨x, h⟩
  unfold backVal backCode
  rw [dif_pos he, if_pos he, (Classical.choose_spec he).uniq h]
  exact ⟨rfl, rfl⟩
theorem back_no {n : Nat} {l : Nat → KnotD} {y : Int} (h : ∀ z : Nat, z < 1001 → curveVal n l z < y) : backVal n l y = 0 ∧ backCode n l y = 3 := by
  have he : ¬ ∃ x, IsBack n l y x := fun ⟨x, h1, h2, _⟩ => by have := h x (by omega); omega
  unfold backVal backCode
  rw [dif_neg he, if_neg he]
  exact ⟨rfl, rfl⟩
noncomputable def cBack0 (n : Nat) (l : Nat → KnotD) (x : Int) : Int := if curveOk n l = true ∧ inB x 0 1000 = true then backVal n l x else 0
noncomputable def cBack1 (n : Nat) (l : Nat → KnotD) (x : Int) : Int := if curveOk n l = true then (if inB x 0 1000 = true then backCode n l x else 2) else 1
theorem cBack_bad {n : Nat} {l : Nat → KnotD} {x : Int} (h : curveOk n l = false) : cBack0 n l x = 0 ∧ cBack1 n l x = 1 := by simp [cBack0, cBack1, h]
theorem cBack_out {n : Nat} {l : Nat → KnotD} {x : Int} (h : curveOk n l = true) (h' : inB x 0 1000 = false) : cBack0 n l x = 0 ∧ cBack1 n l x = 2 := by simp [cBack0, cBack1, h, h']
theorem cBack_in {n : Nat} {l : Nat → KnotD} {x : Int} (h : curveOk n l = true) (h' : inB x 0 1000 = true) : cBack0 n l x = backVal n l x ∧ cBack1 n l x = backCode n l x := by simp [cBack0, cBack1, h, h']

set_option maxHeartbeats 800000 in
theorem implCurveAt_any (A : Option Addr) (n c : Nat) (l : Nat → KnotD) (x : Int) (w : World) (hn : n ≤ 1048576) (hs : Sl w A (n * 2) (KnotC l)) (hg : ∀ k, k < n → KnotOk (l k)) (_hx : -9223372036854775808 ≤ x ∧ x ≤ 9223372036854775807) :
    Calls Tryz.prog 8 #[.slice A n c, .int .i64 x] w fun e w' => e = .returned (.tuple #[.int .i64 (cAt0 n l x), .int .i64 (cAt1 n l x)]) ∧ Below w.heap.size w w' := by
  cases ok : curveOk n l
  · have E := Lib.hid (cAt_bad (x := x) ok)
    go_enter Tryz.func8, Tryz.ntmps8
    go_wp2_with fail
    refine (validCurve_any _ _ _ l _ hn hs hg).mono ?_
    rintro e w1 ⟨rfl, hb⟩
    go_wp2_with fail
    go_ret2
    exact ⟨ret_tup E.out.1.symm E.out.2.symm, hb⟩
  cases lv : inB x 0 1000
  · have E := Lib.hid (cAt_out ok lv)
    go_enter Tryz.func8, Tryz.ntmps8
    go_wp2_with fail
    refine (validCurve_any _ _ _ l _ hn hs hg).mono ?_
    rintro e w1 ⟨rfl, hb⟩
    go_wp2_with fail
    refine (isLevel_any _ _).mono ?_
    rintro e w2 ⟨rfl, hb2⟩
    have hb3 := hb.trans (hb2.mono hb.size)
    go_wp2_with fail
    go_ret2
    exact ⟨ret_tup E.out.1.symm E.out.2.symm, hb3⟩
  · have E := Lib.hid (cAt_in ok lv)
    have lv' := inB_iff.1 lv
    have OK := curveOk_of ok
    go_enter Tryz.func8, Tryz.ntmps8
    go_wp2_with fail
    refine (validCurve_any _ _ _ l _ hn hs hg).mono ?_
    rintro e w1 ⟨rfl, hb⟩
    go_wp2_with fail
    refine (isLevel_any _ _).mono ?_
    rintro e w2 ⟨rfl, hb2⟩
    have hb3 := hb.trans (hb2.mono hb.size)
    go_wp2_with fail
    refine (curveAt_any _ n _ l _ _ OK lv'.1 lv'.2 (hs.below hb3)).mono ?_
    rintro e w4 ⟨rfl, hb4⟩
    have hb5 := hb3.trans (hb4.mono hb3.size)
    go_wp2_with fail
    go_ret2
    exact ⟨ret_tup E.out.1.symm E.out.2.symm, hb5⟩

set_option maxHeartbeats 800000 in
theorem implCurveBack_any (A : Option Addr) (n c : Nat) (l : Nat → KnotD) (y : Int) (w : World) (hn : n ≤ 1048576) (hs : Sl w A (n * 2) (KnotC l)) (hg : ∀ k, k < n → KnotOk (l k)) (_hx : -9223372036854775808 ≤ y ∧ y ≤ 9223372036854775807) :
    Calls Tryz.prog 7 #[.slice A n c, .int .i64 y] w fun e w' => e = .returned (.tuple #[.int .i64 (cBack0 n l y), .int .i64 (cBack1 n l y)]) ∧ Below w.heap.size w w' := by
  cases ok : curveOk n l
  · have E := Lib.hid (cBack_bad (x := y) ok)
    go_enter Tryz.func7, Tryz.ntmps7
    go_wp2_with fail
    refine (validCurve_any _ _ _ l _ hn hs hg).mono ?_
    rintro e w1 ⟨rfl, hb⟩
    go_wp2_with fail
    go_ret2
    exact ⟨ret_tup E.out.1.symm E.out.2.symm, hb⟩
  cases lv : inB y 0 1000
  · have E := Lib.hid (cBack_out ok lv)
    go_enter Tryz.func7, Tryz.ntmps7
    go_wp2_with fail
    refine (validCurve_any _ _ _ l _ hn hs hg).mono ?_
    rintro e w1 ⟨rfl, hb⟩
    go_wp2_with fail
    refine (isLevel_any _ _).mono ?_
    rintro e w2 ⟨rfl, hb2⟩
    have hb3 := hb.trans (hb2.mono hb.size)
    go_wp2_with fail
    go_ret2
    exact ⟨ret_tup E.out.1.symm E.out.2.symm, hb3⟩
  · have E := Lib.hid (cBack_in ok lv)
    have OK := curveOk_of ok
    go_enter Tryz.func7, Tryz.ntmps7
    go_wp2_with fail
    refine (validCurve_any _ _ _ l _ hn hs hg).mono ?_
    rintro e w1 ⟨rfl, hb⟩
    go_wp2_with fail
    refine (isLevel_any _ _).mono ?_
    rintro e w2 ⟨rfl, hb2⟩
    have hb3 := hb.trans (hb2.mono hb.size)
    go_wp2_with fail
    clear ok lv
    go_loopw [6] (fun i wr => ∃ k : Nat, k ≤ 1001 ∧ i = .int .i64 k ∧ Below w.heap.size w wr ∧ ∀ z : Nat, z < k → curveVal n l z < y) (fun i _ => 1001 - (intOf i).toNat)
    case atStart => exact ⟨0, Nat.zero_le _, rfl, hb3, fun z hz => absurd hz (by omega)⟩
    case round =>
      obtain ⟨k, hk, rfl, hbl, hall⟩ := hrel
      have HALL := Lib.hid hall
      clear hall
      by_cases hlt : k < 1001
      · go_wp2_with fail
        refine (curveAt_any _ n _ l _ _ OK (by omega) (by omega) (hs.below hbl)).mono ?_
        rintro e w4 ⟨rfl, hb4⟩
        have hb5 := hbl.trans (hb4.mono hbl.size)
        by_cases t : y ≤ curveVal n l k
        · have R := Lib.hid (back_eq (n := n) (l := l) (y := y) (x := k) ⟨by omega, t, HALL.out⟩)
          go_wp2_with fail
          go_ret2
          exact ⟨ret_tup (by rw [E.out.1, R.out.1]) (by rw [E.out.2, R.out.2]), hb5⟩
        · go_wp2_with fail
          go_roundw
          case rel => exact ⟨k + 1, by omega, by go_num, hb5, okAll HALL.out (by omega)⟩
          case measure => simp [intOf]; omega
      · obtain rfl : k = 1001 := by omega
        have R := Lib.hid (back_no HALL.out)
        go_wp2_with fail
        go_ret2
        exact ⟨ret_tup (by rw [E.out.1, R.out.1]) (by rw [E.out.2, R.out.2]), hbl⟩
end Go.Proofs.YthjllledhcfnhaaGreatDoor
