/- FnBrightness returns true at every input. Conditions: those that the arguments meet; the variables of the program hold their tables. -/
import Derived.Test.YthjllledhcfnhaaGreatDoorBrightAsk
import Derived.Test.YthjllledhcfnhaaGreatDoorB10
import Derived.Test.YthjllledhcfnhaaGreatDoorTail
import Derived.Deep.DeepCutAuto
namespace Go.Proofs.YthjllledhcfnhaaGreatDoor
open Go.RowKit Go.Lib Go.Ks
set_option maxRecDepth 100000 in
set_option maxHeartbeats 16000000 in
theorem fnBrightness_any (A0 : Option Addr) (n0 c0 : Nat) (l0 : Nat → Int) (A1 : Option Addr) (n1 c1 : Nat) (l1 : Nat → Int) (w : World) (b0 : n0 ≤ 9223372036854775807) (s0 : Sl w A0 (n0 * 1) (ByteC l0)) (g0 : ∀ k, k < n0 → 0 ≤ l0 k ∧ l0 k ≤ 255) (b1 : n1 ≤ 9223372036854775807) (s1 : Sl w A1 (n1 * 1) (ByteC l1)) (g1 : ∀ k, k < n1 → 0 ≤ l1 k ∧ l1 k ≤ 255) (hT : Tab w) (hL : Tx.LibV w) :
    Calls Tryz.prog 3 #[.slice A0 n0 c0, .slice A1 n1 c1] w fun e w' => e = .returned (.bool true) ∧ Below w.heap.size w w' := by
  have HT := Lib.hid hT
  have HLL := Lib.hid hL
  clear hT hL
  go_enter Tryz.func3, Tryz.ntmps3
  go_wp2_with fail
  refine (b10Long_any A0 n0 c0 _ b0).mono ?_
  rintro e w1 ⟨rfl, HB⟩
  by_cases q0 : 1048576 < n0
  · rw [decide_eq_true q0]
    go_wp2_with fail
    go_ret
    exact ⟨rfl, HB⟩
  rw [decide_eq_false q0]
  go_wp2_with fail
  refine (b10Long_any A1 n1 c1 _ b1).mono ?_
  rintro e w2 ⟨rfl, hb2⟩
  replace HB := HB.trans (hb2.mono HB.size)
  by_cases q1 : 1048576 < n1
  · rw [decide_eq_true q1]
    go_wp2_with fail
    go_ret
    exact ⟨rfl, HB⟩
  rw [decide_eq_false q1]
  have m0 : n0 ≤ 1048576 := by omega
  have m1 : n1 ≤ 1048576 := by omega
  have S0 := Lib.hid s0
  have S1 := Lib.hid s1
  have G0 := Lib.hid g0
  have G1 := Lib.hid g1
  clear q0 q1 s0 s1 g0 g1 hb2
  go_wp2_with fail
  refine (drawBack_any A0 n0 c0 l0 _ m0 (S0.out.below HB) G0.out).mono ?_
  rintro e w3 ⟨⟨X, a, ca, K, y, rfl, ⟨ha, xo, kx⟩, hy⟩, hb3⟩
  replace HB := HB.trans (hb3.mono HB.size)
  have XS := Lib.hid xo.sl
  have KX := Lib.hid kx
  clear xo kx hb3
  go_wp2_with fail
  refine (back_ask _ ha XS.out KX.out hy).mono ?_
  rintro e w4 ⟨⟨v, C, rfl, hC⟩, hb4⟩
  replace HB := HB.trans (hb4.mono HB.size)
  have XS4 := Lib.hid (XS.out.below hb4)
  have HC := Lib.hid hC
  clear hC hb4 XS
  go_upto_if 47 with (fail)
  have HW : w4.heap.size = w4.heap.size := rfl
  clear HW
  go_cut [9] (fun _ wr => Below w4.heap.size w4 wr)
  case first =>
    by_cases c0 : C = 0
    · subst c0
      obtain ⟨ok, x, rfl, x1, x2, x3⟩ := HC.out rfl
      have OK := Lib.hid ok
      obtain ⟨u, hu⟩ : ∃ u, curveVal a K (x : Int) = u := ⟨_, rfl⟩
      rw [hu] at x2
      have HU := Lib.hid hu
      have X3 := Lib.hid x3
      have nn1 : ¬ u < y := by omega
      clear hu ok x3
      go_wp2_with fail
      refine (curve_at (y := u) _ OK.out XS4.out ⟨by omega, by omega⟩ HU.out).mono ?_
      rintro e w5 ⟨rfl, hb5⟩
      have XS5 := Lib.hid (XS4.out.below hb5)
      by_cases xp : 0 < x
      · have xp' : (0 : Int) < (x : Int) := by omega
        have wr1 : IntKind.i64.wrap ((x : Int) - 1) = ((x - 1 : Nat) : Int) := by rw [IntKind.wrap_i64]; omega
        have eq1 : (x : Int) - 1 = ((x - 1 : Nat) : Int) := by omega
        have hz := X3.out (x - 1) (by omega)
        obtain ⟨t, ht⟩ : ∃ t, curveVal a K ((x - 1 : Nat) : Int) = t := ⟨_, rfl⟩
        rw [ht] at hz
        have HTT := Lib.hid ht
        have nn2 : ¬ y ≤ t := by omega
        clear ht
        go_wp2_with fail
        refine (curve_at (y := t) _ OK.out XS5.out ⟨by omega, by omega⟩ HTT.out).mono ?_
        rintro e w6 ⟨rfl, hb6⟩
        have B6 := hb5.trans (hb6.mono hb5.size)
        go_wp2_with fail
        go_meet
        exact B6
      · obtain rfl : x = 0 := by omega
        go_wp2_with fail
        go_meet
        exact hb5
    · go_wp2_with fail
      go_meet
      exact Below.refl _ _
  obtain ⟨w5, rfl⟩ : ∃ q : World, q = wc := ⟨_, rfl⟩
  replace HB := HB.trans (hcut.mono HB.size)
  have XS5 := Lib.hid (XS4.out.below hcut)
  clear hcut XS4 HC
  go_wp2_with fail
  refine (valid_ask _ ha XS5.out KX.out).mono ?_
  rintro e w6 ⟨⟨b, rfl, hb⟩, hb6⟩
  replace HB := HB.trans (hb6.mono HB.size)
  have XS6 := Lib.hid (XS5.out.below hb6)
  have HBB := Lib.hid hb
  clear hb hb6 XS5
  go_upto_if 78 with (fail)
  go_cut [13] (fun _ wr => Below w6.heap.size w6 wr)
  case first =>
    cases b
    · go_wp2_with fail
      go_meet
      exact Below.refl _ _
    · have OK := Lib.hid (HBB.out rfl)
      obtain ⟨t, ht⟩ : ∃ t, Tx.curveTx K a = t := ⟨_, rfl⟩
      have TX := Lib.hid ht
      clear ht
      go_wp2_with fail
      refine (ctext_is _ OK.out XS6.out TX.out (HLL.out.below HB).1).mono ?_
      rintro e w7 ⟨rfl, hb7⟩
      have HB7 := HB.trans (hb7.mono HB.size)
      go_wp2_with fail
      refine (cread_is _ OK.out TX.out (HLL.out.below HB7)).mono ?_
      rintro e w8 ⟨⟨A2, c2, K2, rfl, o2, ok2, t2⟩, hb8⟩
      have HB8 := HB7.trans (hb8.mono HB7.size)
      have O2 := Lib.hid o2.sl
      have OK2 := Lib.hid ok2
      have TX2 := Lib.hid t2
      have B8 := hb7.trans (hb8.mono hb7.size)
      clear o2 ok2 t2 hb7 hb8
      go_wp2_with fail
      refine (ctext_is _ OK2.out O2.out TX2.out (HLL.out.below HB8).1).mono ?_
      rintro e w9 ⟨rfl, hb9⟩
      have HB9 := HB8.trans (hb9.mono HB8.size)
      have B9 := B8.trans (hb9.mono B8.size)
      clear hb9
      go_wp2_with fail
      refine (ctext_is _ OK.out (XS6.out.below B9) TX.out (HLL.out.below HB9).1).mono ?_
      rintro e w10 ⟨rfl, hb10⟩
      have B10 := B9.trans (hb10.mono B9.size)
      clear hb10
      go_wp2_with fail
      go_meet
      exact B10
  obtain ⟨w7, rfl⟩ : ∃ q : World, q = wc := ⟨_, rfl⟩
  replace HB := HB.trans (hcut.mono HB.size)
  clear hcut XS6 HBB KX ha hy
  go_wp2_with fail
  refine (drawMaskAt_any A1 n1 c1 l1 _ m1 (S1.out.below HB) G1.out).mono ?_
  rintro e w8 ⟨⟨M, nm, cm, LM, az, h, rfl, ⟨hnm, mo, km⟩, haz, hh⟩, hb8⟩
  replace HB := HB.trans (hb8.mono HB.size)
  have MS := Lib.hid mo.sl
  have KM := Lib.hid km
  clear mo km hb8
  go_wp2_with fail
  refine (mask_ask _ hnm MS.out KM.out haz hh).mono ?_
  rintro e w9 ⟨⟨lev, CM, rfl, lv0, lv1⟩, hb9⟩
  replace HB := HB.trans (hb9.mono HB.size)
  have nl1 : ¬ lev < 0 := by omega
  have nl2 : ¬ 1000 < lev := by omega
  clear MS KM hb9 haz hh hnm
  go_wp2_with fail
  all_goals
    refine (drawUniform_any A0 n0 c0 l0 _ m0 (S0.out.below HB) G0.out).mono ?_
    rintro e w10 ⟨⟨P, np, cp, LP, Q, mq, cq, bq, st, rfl, ⟨hnp, po, kp⟩, ⟨hmq, qo, kq⟩, hst⟩, hb10⟩
    replace HB := HB.trans (hb10.mono HB.size)
    have PS := Lib.hid po.sl
    have KP := Lib.hid kp
    have QS := Lib.hid qo.sl
    have KQ := Lib.hid kq
    clear po kp qo kq hb10
    go_wp2_with fail
    have UA := uni_ask (c := cp) (c2 := cq) _ hnp PS.out KP.out hmq QS.out KQ.out hst (HT.out.below HB)
    obtain ⟨V, hV⟩ : ∃ V, mUbV np LP mq bq st = V := ⟨_, rfl⟩
    obtain ⟨D, hD⟩ : ∃ D, mUbC np LP mq bq st = D := ⟨_, rfl⟩
    rw [hV, hD] at UA
    have HV := Lib.hid hV
    have HD := Lib.hid hD
    clear hV hD
    refine UA.mono ?_
    rintro e w11 ⟨rfl, hb11⟩
    replace HB := HB.trans (hb11.mono HB.size)
    have PS11 := Lib.hid (PS.out.below hb11)
    have QS11 := Lib.hid (QS.out.below hb11)
    clear UA PS QS hb11
    by_cases d0 : D = 0
    · subst d0
      have BO := Lib.hid (ub_step HD.out)
      obtain ⟨t1, t2⟩ := ub_step HD.out
      have d1 : 0 ≤ 90000 / st := Int.ediv_nonneg (by omega) (by omega)
      have d2 : 90000 / st ≤ 90000 := Int.ediv_le_self _ (by omega)
      have d3 : 0 ≤ 359999 / st := Int.ediv_nonneg (by omega) (by omega)
      have d4 : 359999 / st ≤ 359999 := Int.ediv_le_self _ (by omega)
      have wr1 : wrap64 (90000 / st + 1) = 90000 / st + 1 := by unfold wrap64; omega
      have wr2 : wrap64 (359999 / st + 1) = 359999 / st + 1 := by unfold wrap64; omega
      go_wp2_with fail
      refine (b10At_any A1 n1 c1 l1 0 (90000 / st + 1) _ m1 (by omega) ⟨by omega, by omega⟩ (S1.out.below HB) G1.out).mono ?_
      rintro e w12 ⟨⟨i, rfl, i0, i1⟩, hb12⟩
      replace HB := HB.trans (hb12.mono HB.size)
      have PS12 := Lib.hid (PS11.out.below hb12)
      have QS12 := Lib.hid (QS11.out.below hb12)
      clear PS11 QS11 hb12
      obtain ⟨_, _, _, _, _, y0, y1⟩ := spot_is (j := 0) t1 i0 i1 (by decide) (by omega)
      have wr3 : wrap64 (st * i) = st * i := by unfold wrap64; omega
      go_wp2_with fail
      refine (b10At_any A1 n1 c1 l1 1 (359999 / st + 1) _ m1 (by omega) ⟨by omega, by omega⟩ (S1.out.below HB) G1.out).mono ?_
      rintro e w13 ⟨⟨j, rfl, j0, j1⟩, hb13⟩
      replace HB := HB.trans (hb13.mono HB.size)
      have PS13 := Lib.hid (PS12.out.below hb13)
      have QS13 := Lib.hid (QS12.out.below hb13)
      clear PS12 QS12 hb13
      obtain ⟨_, _, _, _, ⟨x0, x1⟩, _, _⟩ := spot_is t1 i0 i1 j0 j1
      have wr4 : wrap64 (st * j) = st * j := by unfold wrap64; omega
      have OA := own_ask (c := cp) (c2 := cq) _ hnp PS13.out KP.out hmq QS13.out KQ.out (HT.out.below HB) HD.out i0 i1 j0 j1
      rw [HV.out] at OA
      have OAH := Lib.hid OA
      clear OA
      go_wp2_with fail
      refine OAH.out.mono ?_
      rintro e w14 ⟨⟨own, rfl, ole⟩, hb14⟩
      replace HB := HB.trans (hb14.mono HB.size)
      have oled := decide_eq_true ole
      go_wp2_with fail
      go_ret
      exact ⟨rfl, HB⟩
    · have V0 : V = 0 := HV.out.symm.trans (ub_code (by rw [HD.out]; exact d0))
      subst V0
      go_wp2_with fail
      go_ret
      exact ⟨rfl, HB⟩
end Go.Proofs.YthjllledhcfnhaaGreatDoor
