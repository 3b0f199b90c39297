/- What FnBrightness asks: contracts at drawn arguments. Conditions: those of each. -/
import Derived.Test.YthjllledhcfnhaaGreatDoorReadCurveI
import Derived.Test.YthjllledhcfnhaaGreatDoorDrawCurve
import Derived.Test.YthjllledhcfnhaaGreatDoorDrawMasks
import Derived.Test.YthjllledhcfnhaaGreatDoorDrawBlack
import Derived.Test.YthjllledhcfnhaaGreatDoorCurveFns
import Derived.Test.YthjllledhcfnhaaGreatDoorMaskFns
import Derived.Test.YthjllledhcfnhaaGreatDoorBlackAt
namespace Go.Proofs.YthjllledhcfnhaaGreatDoor
open Go.RowKit Go.Lib Go.Ks
theorem ub_at (n : Nat) (l : Nat → ProjectorD) (b : Nat → Int) (st : Int) : ∀ k j, j < k → blkTo l b (spX st j) (spY st j) n ≤ ubTo n l b st k
  | 0, j, h => absurd h (by omega)
  | k + 1, j, h => by
    unfold ubTo
    by_cases e : j = k
    · subst e; omega
    · have := ub_at n l b st k j (by omega); omega
theorem spot_is {st : Int} (h1 : 10000 ≤ st) {i j : Int} (i0 : 0 ≤ i) (i1 : i < 90000 / st + 1) (j0 : 0 ≤ j) (j1 : j < 359999 / st + 1) :
    ∃ k, k < nSp st ∧ spX st k = st * j ∧ spY st k = st * i ∧ (0 ≤ st * j ∧ st * j ≤ 359999) ∧ 0 ≤ st * i ∧ st * i ≤ 90000 := by
  obtain ⟨I, rfl⟩ := Int.eq_ofNat_of_zero_le i0
  obtain ⟨J, rfl⟩ := Int.eq_ofNat_of_zero_le j0
  have hI : I < nH st := by unfold nH; omega
  have bI := (nH_iff (by omega) I).2 hI
  have bJ : st * (J : Int) ≤ 359999 := by
    have a := Int.mul_ediv_self_le (x := 359999) (k := st) (by omega)
    have c := Int.mul_le_mul_of_nonneg_left (show (J : Int) ≤ 359999 / st by omega) (by omega : 0 ≤ st)
    omega
  have hJ : J < nA st := (nA_iff (by omega) J).1 (by omega)
  refine ⟨J + I * nA st, ?_, ?_, ?_, ⟨Int.mul_nonneg (by omega) (by omega), bJ⟩, Int.mul_nonneg (by omega) (by omega), bI⟩
  · unfold nSp
    have : (I + 1) * nA st ≤ nH st * nA st := Nat.mul_le_mul_right _ (by omega)
    rw [Nat.add_mul, Nat.one_mul] at this
    omega
  · unfold spX
    rw [Nat.add_mul_mod_self_right, Nat.mod_eq_of_lt hJ]
  · unfold spY
    rw [Nat.add_mul_div_right _ _ (by omega), Nat.div_eq_of_lt hJ, Nat.zero_add]
theorem ub_code {n m : Nat} {l : Nat → ProjectorD} {b : Nat → Int} {st : Int} (h : ¬ mUbC n l m b st = 0) : mUbV n l m b st = 0 := by
  unfold mUbC at h
  unfold mUbV
  rw [if_neg]
  rintro ⟨a, b, c⟩
  rw [if_pos a, if_pos ⟨b, c⟩] at h
  exact h rfl
theorem ub_own {n m : Nat} {l : Nat → ProjectorD} {b : Nat → Int} {st i j : Int} (h : mUbC n l m b st = 0) (i0 : 0 ≤ i) (i1 : i < 90000 / st + 1) (j0 : 0 ≤ j) (j1 : j < 359999 / st + 1) :
    mBlC n l m b (st * j) (st * i) = 0 ∧ mBlV n l m b (st * j) (st * i) ≤ mUbV n l m b st := by
  have q : projsB n l = true := by
    cases q : projsB n l
    · have := (mUb_no (m := m) (b := b) (st := st) q).2; rw [h] at this; cases this
    · rfl
  have q1 : blacksB n m b = true := by
    cases q1 : blacksB n m b
    · have := (mUb_no2 (st := st) q q1).2; rw [h] at this; cases this
    · rfl
  have q2 : inB st 10000 90000 = true := by
    cases q2 : inB st 10000 90000
    · have := (mUb_out (m := m) (b := b) q q2).2; rw [h] at this; cases this
    · rfl
  obtain ⟨s1, s2⟩ := inB_iff.1 q2
  obtain ⟨k, hk, ex, ey, ⟨x0, x1⟩, y0, y1⟩ := spot_is s1 i0 i1 j0 j1
  have up : upB (st * j) (st * i) = true := upB_iff.2 ⟨⟨x0, x1⟩, y0, y1⟩
  obtain ⟨e1, e2⟩ := mBl_in q q1 up
  obtain ⟨e3, _⟩ := mUb_in q q1 q2
  refine ⟨e2, ?_⟩
  rw [e1, e3, ← ex, ← ey]
  exact ub_at n l b st _ k hk
theorem ub_step {n m : Nat} {l : Nat → ProjectorD} {b : Nat → Int} {st : Int} (h : mUbC n l m b st = 0) : 10000 ≤ st ∧ st ≤ 90000 := by
  cases q : projsB n l
  · have := (mUb_no (m := m) (b := b) (st := st) q).2; rw [h] at this; cases this
  cases q1 : blacksB n m b
  · have := (mUb_no2 (st := st) q q1).2; rw [h] at this; cases this
  cases q2 : inB st 10000 90000
  · have := (mUb_out (m := m) (b := b) q q2).2; rw [h] at this; cases this
  exact inB_iff.1 q2
theorem back_is {n : Nat} {l : Nat → KnotD} {y : Int} (h : cBack1 n l y = 0) : CurveOk n l ∧ (0 ≤ y ∧ y ≤ 1000) ∧ ∃ X : Nat, cBack0 n l y = (X : Int) ∧ IsBack n l y X := by
  cases q : curveOk n l
  · have := (cBack_bad (x := y) q).2; rw [h] at this; cases this
  cases q1 : inB y 0 1000
  · have := (cBack_out q q1).2; rw [h] at this; cases this
  obtain ⟨e1, e2⟩ := cBack_in q q1
  refine ⟨curveOk_of q, inB_iff.1 q1, ?_⟩
  by_cases hx : ∃ x, IsBack n l y x
  · obtain ⟨x, hx⟩ := hx
    exact ⟨x, by rw [e1, (back_eq hx).1], hx⟩
  · rw [e2] at h
    unfold backCode at h
    rw [if_neg hx] at h
    cases h
theorem mask_lev {n : Nat} {l : Nat → MaskD} {a h : Int} : 0 ≤ mAt0 n l a h ∧ mAt0 n l a h ≤ 1000 := by
  by_cases q : masksOk n l = true ∧ upB a h = true
  · rw [(mAt_in q.1 q.2).1]
    exact maskTo_bd (masksOk_of q.1) a h n (Nat.le_refl _)
  · unfold mAt0
    rw [if_neg q]
    omega
end Go.Proofs.YthjllledhcfnhaaGreatDoor
namespace Go.Proofs.YthjllledhcfnhaaGreatDoor
open Go.RowKit Go.Lib Go.Ks
theorem curve_knots {n : Nat} {l : Nat → KnotD} (h : CurveOk n l) : ∀ k, k < n → KnotOk (l k) := fun k hk => by
  obtain ⟨a, b⟩ := curve_in h hk
  obtain ⟨c, d⟩ := curve_out h hk
  exact ⟨by omega, by omega⟩
theorem curve_at {A : Option Addr} {n c : Nat} {l : Nat → KnotD} {x y : Int} (w : World) (ok : CurveOk n l) (hs : Sl w A (n * 2) (KnotC l)) (hx : 0 ≤ x ∧ x ≤ 1000) (hy : curveVal n l x = y) :
    Calls Tryz.prog 8 #[.slice A n c, .int .i64 x] w fun e w' => e = .returned (.tuple #[.int .i64 y, .int .i64 0]) ∧ Below w.heap.size w w' := by
  have h := implCurveAt_any A n c l x w (by have := ok.2.1; omega) hs (curve_knots ok) (by omega)
  obtain ⟨e1, e2⟩ := cAt_in (curveOk_yes ok) (inB_iff.2 hx)
  rw [e1, e2, hy] at h
  exact h
theorem back_ask {A : Option Addr} {n c : Nat} {l : Nat → KnotD} {y : Int} (w : World) (h0 : n ≤ 20) (hs : Sl w A (n * 2) (KnotC l)) (hg : ∀ k, k < n → KnB (l k)) (hy : -1 ≤ y ∧ y ≤ 1001) :
    Calls Tryz.prog 7 #[.slice A n c, .int .i64 y] w fun e w' => (∃ v C : Int, e = .returned (.tuple #[.int .i64 v, .int .i64 C]) ∧ (C = 0 → CurveOk n l ∧ ∃ X : Nat, v = (X : Int) ∧ IsBack n l y X)) ∧ Below w.heap.size w w' := by
  refine (implCurveBack_any A n c l y w (by omega) hs (fun k hk => (hg k hk).ok) (by omega)).mono ?_
  rintro e w' ⟨rfl, hb⟩
  refine ⟨⟨_, _, rfl, fun h => ?_⟩, hb⟩
  obtain ⟨a, _, X, e, hX⟩ := back_is h
  exact ⟨a, X, e, hX⟩
theorem valid_ask {A : Option Addr} {n c : Nat} {l : Nat → KnotD} (w : World) (h0 : n ≤ 20) (hs : Sl w A (n * 2) (KnotC l)) (hg : ∀ k, k < n → KnB (l k)) :
    Calls Tryz.prog 9 #[.slice A n c] w fun e w' => (∃ b : Bool, e = .returned (.bool b) ∧ (b = true → CurveOk n l)) ∧ Below w.heap.size w w' := by
  refine (specValidCurve_any A n c l w (by omega) hs (fun k hk => (hg k hk).ok)).mono ?_
  rintro e w' ⟨rfl, hb⟩
  exact ⟨⟨_, rfl, fun h => curveOk_of h⟩, hb⟩
theorem ctext_is {A : Option Addr} {n c : Nat} {l : Nat → KnotD} {s : ByteArray} (w : World) (ok : CurveOk n l) (hs : Sl w A (n * 2) (KnotC l)) (ht : Tx.curveTx l n = s) (hT : Tx.Tab w) :
    Calls Tryz.prog 11 #[.slice A n c] w fun e w' => e = .returned (.string s) ∧ Below w.heap.size w w' := by
  have h := Tx.implCurveText_any A n c l w (by have := ok.2.1; omega) hs (curve_knots ok) hT
  unfold Tx.mCT at h
  rw [if_pos (curveOk_yes ok), ht] at h
  exact h
theorem cread_is {n : Nat} {l : Nat → KnotD} {s : ByteArray} (w : World) (ok : CurveOk n l) (ht : Tx.curveTx l n = s) (hT : Tx.LibV w) :
    Calls Tryz.prog 10 #[.string s] w fun e w' => (∃ (A2 : Option Addr) (c2 : Nat) (l2 : Nat → KnotD), e = .returned (.tuple #[.slice A2 n c2, .bool true]) ∧ Own w' w.heap.size 76 2 A2 n (KnotC l2) ∧ CurveOk n l2 ∧ Tx.curveTx l2 n = s) ∧ Below w.heap.size w w' := by
  have sz : s.size ≤ 1048576 := by
    have h1 := Go.Ks.Tx.curveTx_size (l := l) n (fun j hj => by
      obtain ⟨a, b⟩ := curve_in ok hj
      obtain ⟨c, d⟩ := curve_out ok hj
      exact Go.Ks.Tx.knotTx_size ⟨by omega, by omega⟩ ⟨by omega, by omega⟩)
    rw [ht] at h1
    have := ok.2.1
    omega
  have h := Tx.implReadCurve_any s w sz hT
  obtain ⟨e1, e2, e3⟩ := Tx.rc_yes (s := s) (n := n) (l := l) ⟨ok, ht⟩
  unfold Tx.RetRC at h
  rw [e1, e2] at h
  refine h.mono ?_
  rintro e w' ⟨⟨A2, c2, rfl, ho, _⟩, hb⟩
  exact ⟨⟨A2, c2, _, rfl, ho, Tx.curveOk_congr (fun j hj => (e3 j hj).symm) ok, (Tx.curveTx_congr n e3).trans ht⟩, hb⟩
theorem mask_ask {A : Option Addr} {n c : Nat} {l : Nat → MaskD} {a h : Int} (w : World) (h0 : n ≤ 9) (hs : Sl w A (n * 5) (MaskC l)) (hg : ∀ k, k < n → MkB (l k)) (ha : -1 ≤ a ∧ a ≤ 360000) (hh : -1 ≤ h ∧ h ≤ 90001) :
    Calls Tryz.prog 13 #[.slice A n c, .int .i64 a, .int .i64 h] w fun e w' => (∃ v C : Int, e = .returned (.tuple #[.int .i64 v, .int .i64 C]) ∧ 0 ≤ v ∧ v ≤ 1000) ∧ Below w.heap.size w w' := by
  refine (implMaskAt_any A n c l a h w (by omega) hs (fun k hk => (hg k hk).ok) (by omega) (by omega)).mono ?_
  rintro e w' ⟨rfl, hb⟩
  obtain ⟨m0, m1⟩ := mask_lev (n := n) (l := l) (a := a) (h := h)
  exact ⟨⟨_, _, rfl, m0, m1⟩, hb⟩
theorem uni_ask {A : Option Addr} {n c : Nat} {l : Nat → ProjectorD} {A2 : Option Addr} {m c2 : Nat} {b : Nat → Int} {st : Int} (w : World) (h0 : n ≤ 7) (hs : Sl w A (n * 5) (ProjectorC l)) (hg : ∀ k, k < n → PrB (l k)) (h1 : m ≤ 8) (hsb : Sl w A2 (m * 1) (IntC b)) (hgb : ∀ k, k < m → BlB (b k)) (hst : 9999 ≤ st ∧ st ≤ 90001) (hT : Tab w) :
    Calls Tryz.prog 15 #[.slice A n c, .slice A2 m c2, .int .i64 st] w fun e w' => e = .returned (.tuple #[.int .i64 (mUbV n l m b st), .int .i64 (mUbC n l m b st)]) ∧ Below w.heap.size w w' :=
  implUniformBlack_any A n c l A2 m c2 b st w (by omega) hs (fun k hk => (hg k hk).ok) (by omega) hsb (fun k hk => by have := hgb k hk; unfold BlB at this; omega) (by omega) hT
theorem own_ask {A : Option Addr} {n c : Nat} {l : Nat → ProjectorD} {A2 : Option Addr} {m c2 : Nat} {b : Nat → Int} {st i j : Int} (w : World) (h0 : n ≤ 7) (hs : Sl w A (n * 5) (ProjectorC l)) (hg : ∀ k, k < n → PrB (l k)) (h1 : m ≤ 8) (hsb : Sl w A2 (m * 1) (IntC b)) (hgb : ∀ k, k < m → BlB (b k)) (hT : Tab w)
    (h : mUbC n l m b st = 0) (i0 : 0 ≤ i) (i1 : i < 90000 / st + 1) (j0 : 0 ≤ j) (j1 : j < 359999 / st + 1) :
    Calls Tryz.prog 17 #[.slice A n c, .slice A2 m c2, .int .i64 (st * j), .int .i64 (st * i)] w fun e w' => (∃ v : Int, e = .returned (.tuple #[.int .i64 v, .int .i64 0]) ∧ v ≤ mUbV n l m b st) ∧ Below w.heap.size w w' := by
  obtain ⟨e1, e2⟩ := ub_own h i0 i1 j0 j1
  obtain ⟨k, hk, ex, ey, ⟨x0, x1⟩, y0, y1⟩ := spot_is (ub_step h).1 i0 i1 j0 j1
  refine (implBlackAt_any A n c l A2 m c2 b (st * j) (st * i) w (by omega) hs (fun k hk => (hg k hk).ok) (by omega) hsb (fun k hk => by have := hgb k hk; unfold BlB at this; omega) (by omega) (by omega) hT).mono ?_
  rintro e w' ⟨rfl, hb⟩
  rw [e1]
  exact ⟨⟨_, rfl, e2⟩, hb⟩
end Go.Proofs.YthjllledhcfnhaaGreatDoor
