/- A drawn curve is some list of knots of its own. Conditions: the code is shorter than 2^20. -/
import Derived.Test.YthjllledhcfnhaaGreatDoorDrawSt
import Derived.Test.YthjllledhcfnhaaGreatDoorCurveAt
import Derived.Test.YthjllledhcfnhaaGreatDoorAppend
import Derived.Test.YthjllledhcfnhaaGreatDoorTail
import Derived.Test.YthjllledhcfnhaaGreatDoorAppend
import Derived.Lib.SliceRun
namespace Go.Proofs.YthjllledhcfnhaaGreatDoor
open Go.RowKit Go.Lib Go.Ks

theorem Tryz.infoKnot : (Tryz.prog.info? 76).map (fun i => (i.zero, i.size, i.bytes)) = some (some (.agg #[.int .i64 0, .int .i64 0]), 2, 16) := by kernel_rfl
theorem knot_one (l : Nat → KnotD) (n j : Nat) (hj : j < 2) : (KnotC l (n * 2 + j)).oneCell' = true := by
  match j, hj with
  | 0, _ => rw [Nat.add_zero, KnotC0]; rfl
  | 1, _ => rw [KnotC1]; rfl

def pw (x : Int) : Nat → Int
  | 0 => 1000
  | k + 1 => divr (pw x k * x) 1000
theorem pw_bd {x : Int} (h0 : 0 ≤ x) (h1 : x ≤ 1000) : ∀ k, 0 ≤ pw x k ∧ pw x k ≤ 1000
  | 0 => ⟨(by unfold pw; omega), (by unfold pw; omega)⟩
  | k + 1 => by
    have h := pw_bd h0 h1 k
    have hm := mul_bd (a := pw x k) (b := x) (m := 1000) (n := 1000) (by omega) (by omega) h0 h1 (by omega)
    have h2 : 0 ≤ pw x k * x := Int.mul_nonneg h.1 h0
    have e1 := divr_nonneg (b := 1000) (by omega) h2
    have e2 := divr_mono (b := 1000) (a := pw x k * x) (a' := 1000 * 1000) (by omega) (by omega)
    rw [divr_mul (by omega)] at e2
    exact ⟨e1, e2⟩
def mPowerCurveN (x : Int) : Nat := if inB x 1 5 = true then 11 else 0
def mPowerCurveL (x : Int) : Nat → KnotD := fun i => ⟨100 * (i : Int), pw (100 * (i : Int)) x.toNat⟩
def mPowerCurveC (x : Int) : Int := if inB x 1 5 = true then 0 else 2
theorem mPowerCurve_len (x : Int) : mPowerCurveN x ≤ 1048576 := by unfold mPowerCurveN; split <;> omega
theorem mPower_bad {x : Int} (h : inB x 1 5 = false) : mPowerCurveN x = 0 ∧ mPowerCurveC x = 2 := by simp [mPowerCurveN, mPowerCurveC, h]
theorem mPower_ok {x : Int} (h : inB x 1 5 = true) : mPowerCurveN x = 11 ∧ mPowerCurveC x = 0 := by simp [mPowerCurveN, mPowerCurveC, h]
theorem retS {w w' : World} {e : TypeId} {size n n' : Nat} {f : Nat → Value} {code code' : Int} {A : Option Addr} {c : Nat} (hn : n = n') (hc : code = code') (h : Own w' w.heap.size e size A n f) (hz : A = none → c = 0) :
    RetS w w' e size n' f code' (.returned (.tuple #[.slice A n c, .int .i64 code])) := by
  subst hn; subst hc; exact ⟨A, c, rfl, h, hz⟩

noncomputable def mComposeCurvesN (n0 : Nat) (l0 : Nat → KnotD) (n1 : Nat) (l1 : Nat → KnotD) : Nat := if curveOk n0 l0 = true ∧ curveOk n1 l1 = true then 11 else 0
noncomputable def mComposeCurvesL (n0 : Nat) (l0 : Nat → KnotD) (n1 : Nat) (l1 : Nat → KnotD) : Nat → KnotD := fun i => ⟨100 * (i : Int), curveVal n1 l1 (curveVal n0 l0 (100 * (i : Int)))⟩
noncomputable def mComposeCurvesC (n0 : Nat) (l0 : Nat → KnotD) (n1 : Nat) (l1 : Nat → KnotD) : Int := if curveOk n0 l0 = true ∧ curveOk n1 l1 = true then 0 else 1
theorem mComposeCurves_len (n0 : Nat) (l0 : Nat → KnotD) (n1 : Nat) (l1 : Nat → KnotD) : mComposeCurvesN n0 l0 n1 l1 ≤ 1048576 := by unfold mComposeCurvesN; split <;> omega
theorem mCompose_bad {n0 : Nat} {l0 : Nat → KnotD} {n1 : Nat} {l1 : Nat → KnotD} (h : ¬ (curveOk n0 l0 = true ∧ curveOk n1 l1 = true)) : mComposeCurvesN n0 l0 n1 l1 = 0 ∧ mComposeCurvesC n0 l0 n1 l1 = 1 := ⟨if_neg h, if_neg h⟩
theorem mCompose_ok {n0 : Nat} {l0 : Nat → KnotD} {n1 : Nat} {l1 : Nat → KnotD} (h : curveOk n0 l0 = true ∧ curveOk n1 l1 = true) : mComposeCurvesN n0 l0 n1 l1 = 11 ∧ mComposeCurvesC n0 l0 n1 l1 = 0 := ⟨if_pos h, if_pos h⟩

noncomputable def mRaiseBlackN (n : Nat) (l : Nat → KnotD) (x : Int) : Nat := if curveOk n l = true ∧ inB x 0 1000 = true then n else 0
def mRaiseBlackL (_n : Nat) (l : Nat → KnotD) (x : Int) : Nat → KnotD := fun i => ⟨(l i).f0, x + divr ((l i).f1 * (1000 - x)) 1000⟩
noncomputable def mRaiseBlackC (n : Nat) (l : Nat → KnotD) (x : Int) : Int := if curveOk n l = true then (if inB x 0 1000 = true then 0 else 2) else 1
theorem mRaiseBlack_len (n : Nat) (l : Nat → KnotD) (x : Int) : mRaiseBlackN n l x ≤ 1048576 := by
  unfold mRaiseBlackN
  split
  · rename_i h; have := (curveOk_of h.1).2.1; omega
  · omega
theorem mRaise_bad {n : Nat} {l : Nat → KnotD} {x : Int} (h : curveOk n l = false) : mRaiseBlackN n l x = 0 ∧ mRaiseBlackC n l x = 1 := by simp [mRaiseBlackN, mRaiseBlackC, h]
theorem mRaise_out {n : Nat} {l : Nat → KnotD} {x : Int} (h : curveOk n l = true) (h' : inB x 0 1000 = false) : mRaiseBlackN n l x = 0 ∧ mRaiseBlackC n l x = 2 := by simp [mRaiseBlackN, mRaiseBlackC, h, h']
theorem mRaise_ok {n : Nat} {l : Nat → KnotD} {x : Int} (h : curveOk n l = true) (h' : inB x 0 1000 = true) : mRaiseBlackN n l x = n ∧ mRaiseBlackC n l x = 0 := by simp [mRaiseBlackN, mRaiseBlackC, h, h']

end Go.Proofs.YthjllledhcfnhaaGreatDoor
namespace Go.Proofs.YthjllledhcfnhaaGreatDoor
open Go.RowKit Go.Lib Go.Ks
/-- a knot that lies in the square -/
def KnB (x : KnotD) : Prop := (-2 ≤ x.f0 ∧ x.f0 ≤ 1001) ∧ -2 ≤ x.f1 ∧ x.f1 ≤ 1001
theorem KnB.ok {x : KnotD} (h : KnB x) : KnotOk x := by
  obtain ⟨⟨a, b⟩, c, d⟩ := h
  exact ⟨by omega, by omega⟩
def KnI (x : KnotD) : Prop := (0 ≤ x.f0 ∧ x.f0 ≤ 1000) ∧ 0 ≤ x.f1 ∧ x.f1 ≤ 1000
theorem KnI.b {x : KnotD} (h : KnI x) : KnB x := by
  obtain ⟨⟨a, b⟩, c, d⟩ := h
  exact ⟨⟨by omega, by omega⟩, by omega, by omega⟩
/-- one knot more -/
def addK (L : Nat → KnotD) (n : Nat) (x y : Int) : Nat → KnotD := fun j => if j = n then ⟨x, y⟩ else L j
theorem addK_old {L : Nat → KnotD} {n : Nat} {x y : Int} (j : Nat) (hj : j < n * 2) : KnotC L j = KnotC (addK L n x y) j := by
  obtain ⟨q, hq⟩ : ∃ q, j = q * 2 ∨ j = q * 2 + 1 := ⟨j / 2, by omega⟩
  rcases hq with rfl | rfl
  · rw [KnotC0, KnotC0]; unfold addK; rw [if_neg (by omega)]
  · rw [KnotC1, KnotC1]; unfold addK; rw [if_neg (by omega)]
theorem addK_new {W : World} {B : Nat} {L : Nat → KnotD} {n : Nat} {x y : Int} {t : TypeId} (h : Blk W B t #[.int .i64 x, .int .i64 y]) : ∀ j, j < 2 → W.cell? ⟨B, j, none⟩ = some (KnotC (addK L n x y) (n * 2 + j)) := fun j hj => by
  match j, hj with
  | 0, _ => rw [h.cell 0, Nat.add_zero, KnotC0]; simp [addK]
  | 1, _ => rw [h.cell 1, KnotC1]; simp [addK]
theorem addK_in {P : KnotD → Prop} {L : Nat → KnotD} {n : Nat} {x y : Int} (h : ∀ j, j < n → P (L j)) (h' : P ⟨x, y⟩) : ∀ j, j < n + 1 → P (addK L n x y j) := fun j hj => by
  unfold addK
  by_cases q : j = n
  · rw [if_pos q]; exact h'
  · rw [if_neg q]; exact h j (by omega)
theorem putK0 {w : World} {B ms n i : Nat} {h : Nat → Value} {l : Nat → KnotD} {x : Int} (hb : Blk w B 76 (arr ms h)) (hh : ∀ q, q < n * 2 → h q = KnotC l q) :
    ∃ h', Blk (w.setCell ⟨B, i * 2, none⟩ (.int .i64 x)) B 76 (arr ms h') ∧ ∀ q, q < n * 2 → h' q = KnotC (fun j => if j = i then ⟨x, (l i).f1⟩ else l j) q := by
  refine ⟨_, by rw [← arr_set]; exact hb.set_ _ _, fun q hq => ?_⟩
  obtain ⟨k, hk⟩ : ∃ k, q = k * 2 ∨ q = k * 2 + 1 := ⟨q / 2, by omega⟩
  have hq := hh q hq
  rcases hk with rfl | rfl
  · rw [KnotC0] at hq ⊢
    by_cases e : k = i
    · subst e; simp
    · rw [if_neg (by omega), if_neg e, hq]
  · rw [KnotC1] at hq ⊢
    rw [if_neg (by omega), hq]
    by_cases e : k = i
    · subst e; simp
    · rw [if_neg e]
theorem putK1 {w : World} {B ms n i : Nat} {h : Nat → Value} {l : Nat → KnotD} {x : Int} (hb : Blk w B 76 (arr ms h)) (hh : ∀ q, q < n * 2 → h q = KnotC l q) :
    ∃ h', Blk (w.setCell ⟨B, i * 2 + 1, none⟩ (.int .i64 x)) B 76 (arr ms h') ∧ ∀ q, q < n * 2 → h' q = KnotC (fun j => if j = i then ⟨(l i).f0, x⟩ else l j) q := by
  refine ⟨_, by rw [← arr_set]; exact hb.set_ _ _, fun q hq => ?_⟩
  obtain ⟨k, hk⟩ : ∃ k, q = k * 2 ∨ q = k * 2 + 1 := ⟨q / 2, by omega⟩
  have hq := hh q hq
  rcases hk with rfl | rfl
  · rw [KnotC0] at hq ⊢
    rw [if_neg (by omega), hq]
    by_cases e : k = i
    · subst e; simp
    · rw [if_neg e]
  · rw [KnotC1] at hq ⊢
    by_cases e : k = i
    · subst e; simp
    · rw [if_neg (by omega), if_neg e, hq]
theorem kn_if {P : KnotD → Prop} {n i : Nat} {L : Nat → KnotD} {x : KnotD} (h : ∀ j, j < n → P (L j)) (h' : P x) : ∀ j, j < n → P (if j = i then x else L j) := fun j hj => by
  by_cases q : j = i
  · rw [if_pos q]; exact h'
  · rw [if_neg q]; exact h j hj
theorem l00Min_any (a b : Int) (w : World) :
    Calls Tryz.prog 95 #[.int .i64 a, .int .i64 b] w fun e w' => (∃ m : Int, e = .returned (.int .i64 m) ∧ (m = a ∨ m = b) ∧ m ≤ a ∧ m ≤ b) ∧ w = w' := by
  by_cases q : a < b
  · go_enter Tryz.func95, Tryz.ntmps95
    go_wp2_with fail
    go_ret
    exact ⟨⟨a, rfl, .inl rfl, by omega, by omega⟩, rfl⟩
  · go_enter Tryz.func95, Tryz.ntmps95
    go_wp2_with fail
    go_ret
    exact ⟨⟨b, rfl, .inr rfl, by omega, by omega⟩, rfl⟩
set_option maxRecDepth 100000 in
set_option maxHeartbeats 4000000 in
theorem l12DrawOk_any (s : Nat) (A : Option Addr) (n c : Nat) (l : Nat → Int) (k : Nat) (w : World) (hn : n ≤ 1048576) (hk : k ≤ 1000) (h : Src w s A n c l k) :
    Calls Tryz.prog 71 #[.pointer (some ⟨s, 0, none⟩)] w fun e w' => (∃ (v : Value) (N : Nat) (L : Nat → KnotD), e = .returned v ∧ N ≤ 8 ∧ Row w' w.heap.size 76 2 v (N + 1) (KnotC L) ∧ ∀ j, j < N + 1 → KnI (L j)) ∧ Src w' s A n c l (k + 40) ∧ w.grownBy w' (some s) := by
  have hs := h.lt
  have hA : ∀ ad, A = some ad → 0 < n * 1 → ad.block < w.heap.size := fun ad e hm => by obtain ⟨b, off, e2, hb, _⟩ := h.code hm; rw [e] at e2; injection e2 with e2; rw [e2]; exact hb
  obtain ⟨i0, hi, hz0, hz1, hz2⟩ := info_parts Tryz.infoKnot
  go_enter Tryz.func71, Tryz.ntmps71
  go_wp2_with fail
  generalize hV : World.alloc _ _ = w1
  have h1 : Below w.heap.size w w1 := by rw [← hV]; exact (Below.refl _ _).alloc (Nat.le_refl _) _
  have z1 : Blk w1 w.heap.size 2 #[.int .i64 0, .int .i64 0, .int .i64 20, .int .i64 100] := by rw [← hV]; exact Blk.new w _ _
  clear hV
  refine (among_any s A n c l k w.heap.size 4 4 (fun z => 0 ≤ z ∧ z ≤ 100) _ hn (by omega) (by decide) ⟨z1.lt, by omega⟩ ?_ (h.below h1)).mono ?_
  · intro j hj
    match j, hj with
    | 0, _ => exact ⟨_, z1.cell 0, by decide⟩
    | 1, _ => exact ⟨_, z1.cell 1, by decide⟩
    | 2, _ => exact ⟨_, z1.cell 2, by decide⟩
    | 3, _ => exact ⟨_, z1.cell 3, by decide⟩
  rintro e w2 ⟨⟨z, rfl, zb1, zb2⟩, hs2, hg2⟩
  have gA : w.grownBy w2 (some s) := (only_of_below h1 (some s)).trans hg2
  have sz2 := gA.size
  clear z1 h1 hg2
  go_wp2_with fail
  generalize hV : World.alloc _ _ = w3
  have h3 : Below w2.heap.size w2 w3 := by rw [← hV]; exact (Below.refl _ _).alloc (Nat.le_refl _) _
  have r3 : Row w3 w.heap.size 76 2 (.slice (some ⟨w2.heap.size, 0, none⟩) 1 1) (0 + 1) (KnotC (addK (fun _ => ⟨0, 0⟩) 0 0 z)) := by
    rw [← hV]
    refine Row.lit1 w2 _ sz2 rfl (fun j hj => ?_)
    match j, hj with
    | 0, _ => rfl
    | 1, _ => rfl
  clear hV
  have hs3 := hs2.below h3
  have gB := only_then gA h3
  have sz3 := gB.size
  clear hs2 gA h3 sz2
  refine (pick_any s A n c l (k + 2) 5 _ hn (by omega) (by decide) hs3).mono ?_
  rintro e w4 ⟨⟨p, rfl, p1, p2⟩, hs4, hg4⟩
  have gC := gB.trans hg4
  have r4 := r3.only hg4 hs
  clear r3 hs3 gB hg4 sz3
  go_wp2_with fail
  go_loopw [3, 4, 5, 6] (fun v x i _ wr => ∃ (q M : Nat) (L : Nat → KnotD) (X : Int), q ≤ 4 ∧ i = .int .i64 (q : Int) ∧ x = .int .i64 X ∧ 0 ≤ X ∧ X ≤ 190 * (4 - (q : Int)) ∧ M + q ≤ 4 ∧ Row wr w.heap.size 76 2 v (M + 1) (KnotC L) ∧ (∀ j, j < M + 1 → KnI (L j)) ∧ Src wr s A n c l (k + 4 + 4 * (4 - q)) ∧ w.grownBy wr (some s)) (fun _ _ i _ _ => (intOf i).toNat)
  case atStart =>
    obtain ⟨q, rfl⟩ := Int.eq_ofNat_of_zero_le p1
    exact ⟨q, 0, _, 0, by omega, rfl, rfl, by decide, by omega, by omega, r4, addK_in (L := fun _ => ⟨0, 0⟩) (fun j hj => by omega) ⟨⟨Int.le_refl 0, show (0 : Int) ≤ 1000 by decide⟩, zb1, show z ≤ 1000 by omega⟩, hs4.more (by omega), gC⟩
  case round =>
    obtain ⟨q, M, L, X, hq, rfl, rfl, X0, X1, hM, row, hL, hsr, hg⟩ := hrel
    have HL := Lib.hid hL
    clear hL
    obtain ⟨LM0, LM1, LM2⟩ := HL.out M (by omega)
    have gsz := hg.size
    by_cases h0 : 0 < q
    · have h0' : (0 : Int) < (q : Int) := by omega
      go_wp2_with fail
      refine (pick_any s A n c l (k + 4 + 4 * (4 - q)) 190 _ hn (by omega) (by decide) hsr).mono ?_
      rintro e w5 ⟨⟨y, rfl, y1, y2⟩, hs5, hg5⟩
      have row5 := row.only hg5 hs
      have hgw := hg.trans hg5
      have gsz5 := hgw.size
      obtain ⟨B, cc, ms, g, rfl, _, hB, kb, hms, hgg⟩ := row5.blk
      have HG := Lib.hid hgg
      clear hgg row hsr hg gsz hg5
      have bc : w5.cell? ⟨B, M * 2 + 1, none⟩ = some (.int .i64 (L M).f1) := by rw [kb.cell, arr_get _ _ _ (by omega), HG.out _ (by omega), KnotC1]
      have wr1 : IntKind.i64.wrap (1 + y) = 1 + y := by rw [IntKind.wrap_i64]; omega
      have wr2 : IntKind.i64.wrap (X + (1 + y)) = X + (1 + y) := by rw [IntKind.wrap_i64]; omega
      have wr3 : IntKind.i64.wrap (1001 - (L M).f1) = 1001 - (L M).f1 := by rw [IntKind.wrap_i64]; omega
      go_wp2_with fail
      refine (l00Min_any _ _ _).mono ?_
      rintro e wz ⟨⟨m, rfl, hm, m1, m2⟩, rfl⟩
      have m0 : 1 ≤ m := by rcases hm with rfl | rfl <;> omega
      clear hm
      go_wp2_with fail
      refine (pick_any s A n c l (k + 4 + 4 * (4 - q) + 2) m _ hn (by omega) (by omega) hs5).mono ?_
      rintro e w6 ⟨⟨t, rfl, t1, t2⟩, hs6, hg6⟩
      have row6 := row5.only hg6 hs
      have gw6 := hgw.trans hg6
      have gsz6 := gw6.size
      have wr4 : IntKind.i64.wrap ((L M).f1 + t) = (L M).f1 + t := by rw [IntKind.wrap_i64]; omega
      clear kb bc row5 hs5 hgw gsz5 hg6 wr1 wr2 wr3
      have row7 := row6.congr (f' := KnotC (addK L (M + 1) (X + (1 + y)) ((L M).f1 + t))) (fun j hj => addK_old j hj)
      go_wp2_with (at_builtin; refine wpList_append_row rfl _ _ 24 rfl w.heap.size 76 i0 _ 2 16 Tryz.underlying24 hi hz0 hz1 hz2 rfl (by decide) _ (M + 1) (KnotC (addK L (M + 1) (X + (1 + y)) ((L M).f1 + t))) rfl (row7.alloc _) w6.heap.size 1 rfl ?c1 (knot_one _ (M + 1)) ?c3 ?c4 ?c5 ?_)
      case c1 => exact addK_new (Blk.new w6 _ _)
      case c3 => omega
      case c4 => omega
      case c5 => first | omega | (simp; omega)
      intro v' w7 row8 hg7
      have gw7 := only_row (only_alloc gw6 _) (row7.alloc _) (Nat.le_refl _) hg7
      have hs7 := (hs6.below ((Below.refl w6.heap.size w6).alloc (Nat.le_refl _) _)).grown hg7 (fun b hb => by have := (Row.far row7 b hb); exact ⟨by omega, fun ad ha hm => by have := hA ad ha hm; omega⟩)
      clear hg7 row7 row6 hs6
      go_wp2_with fail
      go_roundw
      case rel => exact ⟨q - 1, M + 1, _, X + (1 + y), by omega, ret_num (by omega), rfl, by omega, by omega, by omega, row8, addK_in HL.out ⟨⟨by show 0 ≤ X + (1 + y); omega, by show X + (1 + y) ≤ 1000; omega⟩, by show 0 ≤ (L M).f1 + t; omega, by show (L M).f1 + t ≤ 1000; omega⟩, hs7.more (by omega), gw7⟩
      case measure => simp [intOf]; omega
    · obtain rfl : q = 0 := by omega
      obtain ⟨B, cc, ms, g, rfl, _, hB, kb, hms, hgg⟩ := row.blk
      have HG := Lib.hid hgg
      clear hgg
      have bc : wr.cell? ⟨B, M * 2 + 1, none⟩ = some (.int .i64 (L M).f1) := by rw [kb.cell, arr_get _ _ _ (by omega), HG.out _ (by omega), KnotC1]
      go_wp2_with fail
      generalize hV : World.alloc wr _ = w5
      have h5 : Below wr.heap.size wr w5 := by rw [← hV]; exact (Below.refl _ _).alloc (Nat.le_refl _) _
      have z5 : Blk w5 wr.heap.size 2 #[.int .i64 1000, .int .i64 (L M).f1, .int .i64 1000] := by rw [← hV]; exact Blk.new wr _ _
      clear hV
      refine (among_any s A n c l _ wr.heap.size 3 3 (fun z => 0 ≤ z ∧ z ≤ 1000) _ hn (by omega) (by decide) ⟨z5.lt, by omega⟩ ?_ (hsr.below h5)).mono ?_
      · intro j hj
        match j, hj with
        | 0, _ => exact ⟨_, z5.cell 0, by decide⟩
        | 1, _ => exact ⟨_, z5.cell 1, ⟨LM1, LM2⟩⟩
        | 2, _ => exact ⟨_, z5.cell 2, by decide⟩
      rintro e w6 ⟨⟨t, rfl, t1, t2⟩, hs6, hg6⟩
      have row5 := row.below h5
      have row6 := row5.only hg6 hs
      have gw6 := (only_then hg h5).trans hg6
      have gsz6 := gw6.size
      clear kb bc row5 row hsr hg h5 z5 hg6
      have row7 := row6.congr (f' := KnotC (addK L (M + 1) 1000 t)) (fun j hj => addK_old j hj)
      go_wp2_with (at_builtin; refine wpList_append_row rfl _ _ 24 rfl w.heap.size 76 i0 _ 2 16 Tryz.underlying24 hi hz0 hz1 hz2 rfl (by decide) _ (M + 1) (KnotC (addK L (M + 1) 1000 t)) rfl (row7.alloc _) w6.heap.size 1 rfl ?c1 (knot_one _ (M + 1)) ?c3 ?c4 ?c5 ?_)
      case c1 => exact addK_new (Blk.new w6 _ _)
      case c3 => omega
      case c4 => omega
      case c5 => first | omega | (simp; omega)
      intro v' w7 row8 hg7
      have gw7 := only_row (only_alloc gw6 _) (row7.alloc _) (Nat.le_refl _) hg7
      have hs7 := (hs6.below ((Below.refl w6.heap.size w6).alloc (Nat.le_refl _) _)).grown hg7 (fun b hb => by have := (Row.far row7 b hb); exact ⟨by omega, fun ad ha hm => by have := hA ad ha hm; omega⟩)
      clear hg7 row7 row6 hs6
      go_wp2_with fail
      go_ret
      exact ⟨⟨_, M + 1, _, rfl, by omega, row8, addK_in HL.out ⟨⟨show (0 : Int) ≤ 1000 by decide, Int.le_refl _⟩, t1, t2⟩⟩, hs7.more (by omega), gw7⟩
/-- what a draw of a curve leaves: a list of knots of its own -/
def RetK (w w' : World) (e : Ending) : Prop :=
  ∃ (A : Option Addr) (n c : Nat) (L : Nat → KnotD), e = .returned (.slice A n c) ∧ n ≤ 20 ∧ Own w' w.heap.size 76 2 A n (KnotC L) ∧ ∀ j, j < n → KnB (L j)
set_option maxRecDepth 100000 in
set_option maxHeartbeats 4000000 in
theorem l12Draw_any (s : Nat) (A : Option Addr) (n c : Nat) (l : Nat → Int) (k : Nat) (w : World) (hn : n ≤ 1048576) (hk : k ≤ 900) (h : Src w s A n c l k) :
    Calls Tryz.prog 33 #[.pointer (some ⟨s, 0, none⟩)] w fun e w' => RetK w w' e ∧ Src w' s A n c l (k + 50) ∧ w.grownBy w' (some s) := by
  have hs := h.lt
  have hA : ∀ ad, A = some ad → 0 < n * 1 → ad.block < w.heap.size := fun ad e hm => by obtain ⟨b, off, e2, hb, _⟩ := h.code hm; rw [e] at e2; injection e2 with e2; rw [e2]; exact hb
  obtain ⟨i0, hi, hz0, hz1, hz2⟩ := info_parts Tryz.infoKnot
  go_enter Tryz.func33, Tryz.ntmps33
  go_wp2_with fail
  refine (l12DrawOk_any s A n c l k _ hn (by omega) h).mono ?_
  rintro e w1 ⟨⟨v, N, L, rfl, hN, row, hL⟩, hs1, hg1⟩
  have HL := Lib.hid hL
  clear hL
  go_wp2_with fail
  refine (pick_any s A n c l (k + 40) 18 _ hn (by omega) (by decide) hs1).mono ?_
  rintro e w2 ⟨⟨p, rfl, p1, p2⟩, hs2, hg2⟩
  have row2 := row.only hg2 hs
  have g2 := hg1.trans hg2
  have sz2 := g2.size
  obtain ⟨B, cc, ms, g, rfl, hcc, hB, kb, hms, hgg⟩ := row2.blk
  have HG := Lib.hid hgg
  clear hgg row row2 hs1 hg1 hg2
  have c0 : w2.cell? ⟨B, 0, none⟩ = some (.int .i64 (L 0).f0) := by rw [kb.cell, arr_get _ _ _ (by omega), HG.out _ (by omega)]; exact congrArg some (KnotC0 L 0)
  have c1 : w2.cell? ⟨B, N * 2 + 1, none⟩ = some (.int .i64 (L N).f1) := by rw [kb.cell, arr_get _ _ _ (by omega), HG.out _ (by omega), KnotC1]
  have z0 := kb.frozen 0
  have z1 := kb.frozen (N * 2 + 1)
  have bl := kb.lt
  have FAR := Lib.hid (fun (v : World) (hv : Src v s A n c l (k + 46)) (a : Addr) (u : Value) (ha : a.block = B) => hv.grown (only_setCell (World.grownBy.refl v (some B)) (p := a) (.inl ha) u) (fun b e => by injection e with e; subst e; exact ⟨by omega, fun ad he hm => by have := hA ad he hm; omega⟩))
  obtain ⟨⟨L00, L01⟩, L02, L03⟩ := HL.out 0 (by omega)
  obtain ⟨⟨N00, N01⟩, N02, N03⟩ := HL.out N (by omega)
  by_cases q0 : p = 0
  · subst q0
    go_wp2_with fail
    obtain ⟨h', p1, p2⟩ := putK0 (n := N + 1) (i := 0) (l := L) (x := 1) kb HG.out
    go_ret
    exact ⟨⟨_, N + 1, cc, _, rfl, by omega, Own.blk p1 hB hms p2, kn_if (fun j hj => (HL.out j hj).b) (KnI.b ⟨⟨show (0 : Int) ≤ 1 by decide, show (1 : Int) ≤ 1000 by decide⟩, L02, L03⟩)⟩, (FAR.out _ (hs2.more (by omega)) ⟨B, 0, none⟩ _ rfl).more (by omega), only_setCell g2 (p := ⟨B, 0, none⟩) (.inr hB) _⟩
  by_cases q1 : p = 1
  · subst q1
    go_wp2_with fail
    generalize hV : World.alloc w2 _ = w3
    have h3 : Below w2.heap.size w2 w3 := by rw [← hV]; exact (Below.refl _ _).alloc (Nat.le_refl _) _
    have y3 : Blk w3 w2.heap.size 2 #[.int .i64 (-1), .int .i64 1001, .int .i64 0] := by rw [← hV]; exact Blk.new w2 _ _
    clear hV
    refine (among_any s A n c l (k + 40 + 2) w2.heap.size 3 3 (fun z => -2 ≤ z ∧ z ≤ 1001) _ hn (by omega) (by decide) ⟨y3.lt, by omega⟩ ?_ (hs2.below h3)).mono ?_
    · intro j hj
      match j, hj with
      | 0, _ => exact ⟨_, y3.cell 0, by decide⟩
      | 1, _ => exact ⟨_, y3.cell 1, by decide⟩
      | 2, _ => exact ⟨_, y3.cell 2, by decide⟩
    rintro e w4 ⟨⟨t, rfl, t1, t2⟩, hs4, hg4⟩
    have g4 := (only_then g2 h3).trans hg4
    have kb4 := blk_grown (kb.below h3 kb.lt) hg4 (fun e => by injection e with e; omega)
    clear kb c0 c1 z0 z1 bl h3 y3 hg4 hs2 g2
    have z1 := kb4.frozen (N * 2 + 1)
    have c1 : w4.cell? ⟨B, N * 2 + 1, none⟩ = some (.int .i64 (L N).f1) := by rw [kb4.cell, arr_get _ _ _ (by omega), HG.out _ (by omega), KnotC1]
    have bl := kb4.lt
    go_wp2_with fail
    obtain ⟨h', p1, p2⟩ := putK1 (n := N + 1) (i := N) (l := L) (x := t) kb4 HG.out
    go_ret
    exact ⟨⟨_, N + 1, cc, _, rfl, by omega, Own.blk p1 hB hms p2, kn_if (fun j hj => (HL.out j hj).b) ⟨⟨show -2 ≤ (L N).f0 by omega, show (L N).f0 ≤ 1001 by omega⟩, t1, t2⟩⟩, (FAR.out _ (hs4.more (by omega)) ⟨B, N * 2 + 1, none⟩ _ rfl).more (by omega), only_setCell g4 (p := ⟨B, N * 2 + 1, none⟩) (.inr hB) _⟩
  by_cases q2 : p = 2
  · subst q2
    have hcc' : ¬ cc < 1 := by omega
    have hcc2 : (1 : Int) ≤ (cc : Int) := by omega
    go_wp2_with fail
    go_ret
    exact ⟨⟨_, 1, _, L, rfl, by omega, Own.blk kb hB (by omega) (fun j hj => HG.out j (by omega)), fun j hj => (HL.out j (by omega)).b⟩, hs2.more (by omega), g2⟩
  by_cases q3 : p = 3
  · subst q3
    go_wp2_with fail
    generalize hV : World.alloc w2 _ = w3
    have h3 : Below w2.heap.size w2 w3 := by rw [← hV]; exact (Below.refl _ _).alloc (Nat.le_refl _) _
    have y3 : Blk w3 w2.heap.size 2 #[.int .i64 15, .int .i64 16] := by rw [← hV]; exact Blk.new w2 _ _
    clear hV
    refine (among_any s A n c l (k + 40 + 2) w2.heap.size 2 2 (fun z => 0 ≤ z ∧ z ≤ 16) _ hn (by omega) (by decide) ⟨y3.lt, by omega⟩ ?_ (hs2.below h3)).mono ?_
    · intro j hj
      match j, hj with
      | 0, _ => exact ⟨_, y3.cell 0, by decide⟩
      | 1, _ => exact ⟨_, y3.cell 1, by decide⟩
    rintro e w4 ⟨⟨t, rfl, t1, t2⟩, hs4, hg4⟩
    have g4 := (only_then g2 h3).trans hg4
    have sz4 := g4.size
    clear kb c0 c1 z0 z1 bl h3 y3 hg4 hs2 g2 HG HL FAR N00 N01 N02 N03 L00 L01 L02 L03
    go_wp2_with fail
    generalize hV : World.alloc w4 _ = w5
    have r5 : Row w5 w.heap.size 76 2 (.slice (some ⟨w4.heap.size, 0, none⟩) 0 0) 0 (KnotC (fun j => ⟨10 * (j : Int), 5 * (j : Int)⟩)) := by rw [← hV]; exact Row.empty w4 _ _ _ sz4
    have h5 : Below w4.heap.size w4 w5 := by rw [← hV]; exact (Below.refl _ _).alloc (Nat.le_refl _) _
    clear hV
    have hs5 := hs4.below h5
    have g5 := only_then g4 h5
    clear h5 hs4 g4
    go_loopw [3, 5] (fun v i wr => ∃ q : Nat, (q : Int) ≤ t ∧ i = .int .i64 (q : Int) ∧ Row wr w.heap.size 76 2 v q (KnotC (fun j => ⟨10 * (j : Int), 5 * (j : Int)⟩)) ∧ Src wr s A n c l (k + 40 + 2 + 2) ∧ w.grownBy wr (some s)) (fun _ i _ => (t - intOf i).toNat)
    case atStart => exact ⟨0, t1, rfl, r5, hs5, g5⟩
    case round =>
      obtain ⟨q, hq, rfl, row, hsr, hg⟩ := hrel
      have gsz := hg.size
      by_cases hqt : (q : Int) < t
      · go_wp2_with (at_builtin; refine wpList_append_row rfl _ _ 24 rfl w.heap.size 76 i0 _ 2 16 Tryz.underlying24 hi hz0 hz1 hz2 rfl (by decide) _ q (KnotC (fun j => ⟨10 * (j : Int), 5 * (j : Int)⟩)) rfl (row.alloc _) wr.heap.size 1 rfl ?c1 (knot_one _ q) ?c3 ?c4 ?c5 ?_)
        case c1 =>
          intro j hj
          match j, hj with
          | 0, _ => rw [Nat.add_zero, KnotC0]; simp
          | 1, _ => rw [KnotC1]; simp
        case c3 => omega
        case c4 => omega
        case c5 => first | omega | (simp; omega)
        intro v' w7 row8 hg7
        have gw7 := only_row (only_alloc hg _) (row.alloc _) (Nat.le_refl _) hg7
        have hs7 := (hsr.below ((Below.refl wr.heap.size wr).alloc (Nat.le_refl _) _)).grown hg7 (fun b hb => by have := (Row.far row b hb); exact ⟨by omega, fun ad ha hm => by have := hA ad ha hm; omega⟩)
        clear hg7
        go_wp2_with fail
        go_roundw
        case rel => exact ⟨q + 1, by omega, ret_num (by omega), row8, hs7, gw7⟩
        case measure => simp [intOf]; omega
      · have row7 := row.congr (f' := KnotC (addK (fun j => ⟨10 * (j : Int), 5 * (j : Int)⟩) q 1000 1000)) (fun j hj => addK_old j hj)
        go_wp2_with (at_builtin; refine wpList_append_row rfl _ _ 24 rfl w.heap.size 76 i0 _ 2 16 Tryz.underlying24 hi hz0 hz1 hz2 rfl (by decide) _ q (KnotC (addK (fun j => ⟨10 * (j : Int), 5 * (j : Int)⟩) q 1000 1000)) rfl (row7.alloc _) wr.heap.size 1 rfl ?c1 (knot_one _ q) ?c3 ?c4 ?c5 ?_)
        case c1 =>
          intro j hj
          match j, hj with
          | 0, _ => rw [Nat.add_zero, KnotC0]; simp [addK]
          | 1, _ => rw [KnotC1]; simp [addK]
        case c3 => omega
        case c4 => omega
        case c5 => first | omega | (simp; omega)
        intro v' w7 row8 hg7
        have gw7 := only_row (only_alloc hg _) (row7.alloc _) (Nat.le_refl _) hg7
        have hs7 := (hsr.below ((Below.refl wr.heap.size wr).alloc (Nat.le_refl _) _)).grown hg7 (fun b hb => by have := (Row.far row7 b hb); exact ⟨by omega, fun ad ha hm => by have := hA ad ha hm; omega⟩)
        clear hg7
        obtain ⟨B2, c2, ms2, g2, rfl, _, hB2, kb2, hms2, hg2⟩ := row8.blk
        have HG2 := Lib.hid hg2
        clear hg2
        go_wp2_with fail
        go_ret
        exact ⟨⟨_, q + 1, c2, _, rfl, by omega, Own.blk kb2 hB2 hms2 HG2.out, addK_in (fun j hj => ⟨⟨show -2 ≤ 10 * (j : Int) by omega, show 10 * (j : Int) ≤ 1001 by omega⟩, show -2 ≤ 5 * (j : Int) by omega, show 5 * (j : Int) ≤ 1001 by omega⟩) ⟨⟨show (-2 : Int) ≤ 1000 by decide, show (1000 : Int) ≤ 1001 by decide⟩, show (-2 : Int) ≤ 1000 by decide, show (1000 : Int) ≤ 1001 by decide⟩⟩, hs7.more (by omega), gw7⟩
  · go_wp2_with fail
    go_ret
    exact ⟨⟨_, N + 1, cc, L, rfl, by omega, Own.blk kb hB hms HG.out, fun j hj => (HL.out j hj).b⟩, hs2.more (by omega), g2⟩
set_option maxRecDepth 100000 in
set_option maxHeartbeats 2000000 in
theorem l12DrawLevel_any (s : Nat) (A : Option Addr) (n c : Nat) (l : Nat → Int) (k : Nat) (w : World) (hn : n ≤ 1048576) (hk : k ≤ 900) (h : Src w s A n c l k) :
    Calls Tryz.prog 34 #[.pointer (some ⟨s, 0, none⟩)] w fun e w' => (∃ x : Int, e = .returned (.int .i64 x) ∧ -1 ≤ x ∧ x ≤ 1001) ∧ Src w' s A n c l (k + 4) ∧ w.grownBy w' (some s) := by
  have hs := h.lt
  go_enter Tryz.func34, Tryz.ntmps34
  go_wp2_with fail
  refine (one_any s A n c l k 9 _ hn (by omega) (by decide) h).mono ?_
  rintro e w1 ⟨⟨b, rfl⟩, hs1, hg1⟩
  have sz1 := hg1.size
  cases b
  · go_wp2_with fail
    refine (pick_any s A n c l (k + 2) 1001 _ hn (by omega) (by decide) hs1).mono ?_
    rintro e w2 ⟨⟨p, rfl, p1, p2⟩, hs2, hg2⟩
    go_wp2_with fail
    go_ret
    exact ⟨⟨p, rfl, by omega, by omega⟩, hs2, hg1.trans hg2⟩
  · go_wp2_with fail
    generalize hV : World.alloc w1 _ = w3
    have h3 : Below w1.heap.size w1 w3 := by rw [← hV]; exact (Below.refl _ _).alloc (Nat.le_refl _) _
    have y3 : Blk w3 w1.heap.size 2 #[.int .i64 (-1), .int .i64 0, .int .i64 1000, .int .i64 1001] := by rw [← hV]; exact Blk.new w1 _ _
    clear hV
    refine (among_any s A n c l (k + 2) w1.heap.size 4 4 (fun z => -1 ≤ z ∧ z ≤ 1001) _ hn (by omega) (by decide) ⟨y3.lt, by omega⟩ ?_ (hs1.below h3)).mono ?_
    · intro j hj
      match j, hj with
      | 0, _ => exact ⟨_, y3.cell 0, by decide⟩
      | 1, _ => exact ⟨_, y3.cell 1, by decide⟩
      | 2, _ => exact ⟨_, y3.cell 2, by decide⟩
      | 3, _ => exact ⟨_, y3.cell 3, by decide⟩
    rintro e w4 ⟨⟨t, rfl, t1, t2⟩, hs4, hg4⟩
    go_wp2_with fail
    go_ret
    exact ⟨⟨t, rfl, t1, t2⟩, hs4, (only_then hg1 h3).trans hg4⟩
set_option maxRecDepth 100000 in
set_option maxHeartbeats 2000000 in
theorem drawBack_any (A : Option Addr) (n c : Nat) (l : Nat → Int) (w : World) (hn : n ≤ 1048576) (hs : Sl w A (n * 1) (ByteC l)) (hl : ∀ j, j < n → 0 ≤ l j ∧ l j ≤ 255) :
    Calls Tryz.prog 6 #[.slice A n c] w fun e w' => (∃ (A0 : Option Addr) (n0 c0 : Nat) (L0 : Nat → KnotD) (x : Int), e = .returned (.tuple #[.slice A0 n0 c0, .int .i64 x]) ∧ (n0 ≤ 20 ∧ Own w' w.heap.size 76 2 A0 n0 (KnotC L0) ∧ ∀ j, j < n0 → KnB (L0 j)) ∧ -1 ≤ x ∧ x ≤ 1001) ∧ Below w.heap.size w w' := by
  go_enter Tryz.func6, Tryz.ntmps6
  go_wp2_with fail
  refine (from_any A n c l _ hs hl (fun ad e hm => by obtain ⟨b, off, e2, hb, _⟩ := hs hm; rw [e] at e2; injection e2 with e2; rw [e2]; exact hb)).mono ?_
  rintro e w1 ⟨rfl, hs1, hb1⟩
  have sz1 := hs1.lt
  go_wp2_with fail
  refine (l12Draw_any w.heap.size A n c l 0 _ hn (by omega) hs1).mono ?_
  rintro e w2 ⟨⟨A0, n0, c0, L0, rfl, h0, own0, kn0⟩, hs2, hg2⟩
  have sz2 := hg2.size
  go_wp2_with fail
  refine (l12DrawLevel_any w.heap.size A n c l (0 + 50) _ hn (by omega) hs2).mono ?_
  rintro e w3 ⟨⟨x, rfl, x1, x2⟩, hs3, hg3⟩
  have own0' := own0.only hg3 (by omega)
  go_wp2_with fail
  go_ret2
  exact ⟨⟨A0, n0, c0, L0, x, rfl, ⟨h0, own0'.mono (by omega), kn0⟩, x1, x2⟩, below_by (below_by hb1 hg2 (Nat.le_refl _)) hg3 (Nat.le_refl _)⟩
end Go.Proofs.YthjllledhcfnhaaGreatDoor
