/- WorstView. Conditions: the arguments are int64; the sizes of strings; the variable sines holds its table. -/
import Derived.Test.YthjllledhcfnhaaDoorDomeView
import Derived.Test.YthjllledhcfnhaaDoorDomeArc
import Derived.Test.YthjllledhcfnhaaDoorMinMax
namespace Go.Ks
/-- the greatest error from altitude h on; from azimuth a on -/
def wH (r : Int) (s : VectorD) (st a : Int) : Nat → Int → Int → Int
  | 0, _, m => m
  | n + 1, h, m => if h ≤ 90000 then wH r s st a n (h + st) (max m (errV r s a h)) else m
def wA (r : Int) (s : VectorD) (st : Int) : Nat → Int → Int → Int
  | 0, _, m => m
  | n + 1, a, m => if a < 360000 then wA r s st n (a + st) (wH r s st a 7 0 m) else m
def worstV (r : Int) (s : VectorD) (st : Int) : Int := wA r s st 24 0 0
theorem wH_yes {r : Int} {s : VectorD} {st a : Int} {n : Nat} {h m : Int} (q : h ≤ 90000) : wH r s st a (n + 1) h m = wH r s st a n (h + st) (max m (errV r s a h)) := by rw [wH, if_pos q]
theorem wH_no {r : Int} {s : VectorD} {st a : Int} {n : Nat} {h m : Int} (q : ¬ h ≤ 90000) : wH r s st a n h m = m := by
  cases n with
  | zero => rfl
  | succ n => rw [wH, if_neg q]
theorem wA_yes {r : Int} {s : VectorD} {st a : Int} {n : Nat} {m : Int} (q : a < 360000) : wA r s st (n + 1) a m = wA r s st n (a + st) (wH r s st a 7 0 m) := by rw [wA, if_pos q]
theorem wA_no {r : Int} {s : VectorD} {st a : Int} {n : Nat} {m : Int} (q : ¬ a < 360000) : wA r s st n a m = m := by
  cases n with
  | zero => rfl
  | succ n => rw [wA, if_neg q]
theorem max_bd {a b n : Int} (h1 : 0 ≤ a) (h2 : a ≤ n) (h3 : b ≤ n) : 0 ≤ max a b ∧ max a b ≤ n := by omega
end Go.Ks
namespace Go.Proofs.YthjllledhcfnhaaDoor
open Go.RowKit Go.Lib Go.Ks
noncomputable def mWoV (x : DomeD) (s : VectorD) (st : Int) : Int := if domeB x && inB st 15000 90000 && seatB x.f1 s then worstV x.f1 s st else 0
noncomputable def mWoC (x : DomeD) (s : VectorD) (st : Int) : Int := if domeB x then (if inB st 15000 90000 then (if seatB x.f1 s then 0 else 6) else 2) else 1
section
variable {x : DomeD} {s : VectorD} {st : Int}
theorem mWo_no (h : domeB x = false) : mWoV x s st = 0 ∧ mWoC x s st = 1 := by unfold mWoV mWoC; rw [h]; exact ⟨rfl, rfl⟩
theorem mWo_out (h : domeB x = true) (h' : inB st 15000 90000 = false) : mWoV x s st = 0 ∧ mWoC x s st = 2 := by unfold mWoV mWoC; rw [h, h']; exact ⟨rfl, rfl⟩
theorem mWo_off (h : domeB x = true) (h' : inB st 15000 90000 = true) (h'' : seatB x.f1 s = false) : mWoV x s st = 0 ∧ mWoC x s st = 6 := by unfold mWoV mWoC; rw [h, h', h'']; exact ⟨rfl, rfl⟩
theorem mWo_in (h : domeB x = true) (h' : inB st 15000 90000 = true) (h'' : seatB x.f1 s = true) : mWoV x s st = worstV x.f1 s st ∧ mWoC x s st = 0 := by unfold mWoV mWoC; rw [h, h', h'']; exact ⟨rfl, rfl⟩
end
set_option maxRecDepth 100000 in
set_option maxHeartbeats 8000000 in
theorem implWorstView_any (x0 : ByteArray) (x1 x2 s0 s1 s2 : Int) (st : Int) (w : World) (y0 : x0.size ≤ 9223372036854775807) (_y1 : -9223372036854775808 ≤ x1 ∧ x1 ≤ 9223372036854775807) (_y2 : -9223372036854775808 ≤ x2 ∧ x2 ≤ 9223372036854775807) (_z0 : -9223372036854775808 ≤ s0 ∧ s0 ≤ 9223372036854775807) (_z1 : -9223372036854775808 ≤ s1 ∧ s1 ≤ 9223372036854775807) (_z2 : -9223372036854775808 ≤ s2 ∧ s2 ≤ 9223372036854775807) (_hst : -9223372036854775808 ≤ st ∧ st ≤ 9223372036854775807) (hT : Tab w) :
    Calls Tryd.prog 37 #[.agg #[.string x0, .int .i64 x1, .int .i64 x2], .agg #[.int .i64 s0, .int .i64 s1, .int .i64 s2], .int .i64 st] w fun e w' => e = .returned (.tuple #[.int .i64 (mWoV ⟨x0, x1, x2⟩ ⟨s0, s1, s2⟩ st), .int .i64 (mWoC ⟨x0, x1, x2⟩ ⟨s0, s1, s2⟩ st)]) ∧ Below w.heap.size w w' := by
  obtain ⟨x, hx⟩ : ∃ x : DomeD, x = ⟨x0, x1, x2⟩ := ⟨_, rfl⟩
  have OKP : x.f0.size ≤ 9223372036854775807 := by rw [hx]; exact y0
  obtain ⟨s, hs⟩ : ∃ s : VectorD, s = ⟨s0, s1, s2⟩ := ⟨_, rfl⟩
  rw [← hx, ← hs]
  have hagg : (Value.agg #[.string x0, .int .i64 x1, .int .i64 x2]) = .agg #[.string x.f0, .int .i64 x.f1, .int .i64 x.f2] := by rw [hx]
  have hags : (Value.agg #[.int .i64 s0, .int .i64 s1, .int .i64 s2]) = .agg #[.int .i64 s.f0, .int .i64 s.f1, .int .i64 s.f2] := by rw [hs]
  rw [hagg, hags]
  clear hagg hags hx hs y0 _y1 _y2 _z0 _z1 _z2
  have HT := Lib.hid hT
  clear hT
  go_enter Tryd.func37, Tryd.ntmps37
  go_wp2_with fail
  generalize hW : World.alloc (World.alloc w _) _ = w1
  have HB : Below w.heap.size w w1 := by rw [← hW]; repeat (first | with_reducible exact Below.refl _ _ | with_reducible assumption | with_reducible refine Below.setCell ?_ (by simp <;> omega) _ | with_reducible refine Below.alloc ?_ (by simp <;> omega) _ | with_reducible refine Below.drew ?_)
  have b0 : Blk w1 w.heap.size 54 #[.string x.f0, .int .i64 x.f1, .int .i64 x.f2] := by rw [← hW]; exact (Blk.new w _ _).alloc _
  have x0 : Blk w1 (w.heap.size + 1) 58 #[.int .i64 s.f0, .int .i64 s.f1, .int .i64 s.f2] := by
    have h := blk_alloc hW
    simpa using h
  clear hW
  refine (validDome_any x _ OKP).mono ?_
  rintro e w2 ⟨rfl, hb2⟩
  replace HB := HB.trans (hb2.mono HB.size)
  replace b0 := b0.below hb2 b0.lt
  replace x0 := x0.below hb2 x0.lt
  rcases b_cases (domeB x) with ok | ok
  · have E := Lib.hid (mWo_no (s := s) (st := st) ok)
    go_wp2_with fail
    go_ret2
    exact ⟨ret_tup E.out.1.symm E.out.2.symm, HB⟩
  go_wp2_with fail
  refine (within_eq _ _ _ _).mono ?_
  rintro e w1 ⟨rfl, rfl⟩
  rcases b_cases (inB st 15000 90000) with iq | iq
  · have E := Lib.hid (mWo_out (s := s) ok iq)
    go_wp2_with fail
    go_ret2
    exact ⟨ret_tup E.out.1.symm E.out.2.symm, HB⟩
  have R := dome_nums ok
  obtain ⟨h1, h2⟩ := inB_iff.1 iq
  have c0 := b0.cell 0
  have c1 := b0.cell 1
  have c2 := b0.cell 2
  simp at c0 c1 c2
  have cl := b0.lt
  have d0 := x0.cell 0
  have d1 := x0.cell 1
  have d2 := x0.cell 2
  simp at d0 d1 d2
  have dl := x0.lt
  go_wp2_with fail
  refine (isInside_any x s _ R.1).mono ?_
  rintro e w3 ⟨rfl, hb3⟩
  replace HB := HB.trans (hb3.mono HB.size)
  replace b0 := b0.below hb3 b0.lt
  replace x0 := x0.below hb3 x0.lt
  rcases b_cases (seatB x.f1 s) with sb | sb
  · have E := Lib.hid (mWo_off ok iq sb)
    go_wp2_with fail
    go_ret2
    exact ⟨ret_tup E.out.1.symm E.out.2.symm, HB⟩
  have E := Lib.hid (mWo_in ok iq sb)
  have V := Lib.hid (seat_vb sb R.1.2)
  have HR := Lib.hid R.1
  clear c0 c1 c2 cl d0 d1 d2 dl R
  obtain ⟨W, hW0⟩ : ∃ W, worstV x.f1 s st = W := ⟨_, rfl⟩
  rw [hW0] at E
  have HW := Lib.hid hW0
  clear hW0
  go_wp2_with fail
  clear ok iq sb
  obtain ⟨w1, rfl⟩ : ∃ q : World, q = w3 := ⟨_, rfl⟩
  go_loopw [8, 9] (fun m a wr => ∃ (M A : Int) (n : Nat), m = .int .i64 M ∧ a = .int .i64 A ∧ (0 ≤ M ∧ M ≤ 359999) ∧ (0 ≤ A ∧ A ≤ 450000) ∧ 360000 ≤ A + 15000 * (n : Int) ∧ wA x.f1 s st n A M = W ∧ Below w1.heap.size w1 wr) (fun _ a _ => (360000 - intOf a).toNat)
  case atStart => exact ⟨0, 0, 24, rfl, rfl, by omega, by omega, by omega, HW.out, Below.refl _ _⟩
  case round =>
    obtain ⟨M, A, n, rfl, rfl, ⟨m0, m1⟩, ⟨a0, a1⟩, hn, hw, hbl⟩ := hrel
    have HWW := Lib.hid hw
    clear hw
    by_cases q : A < 360000
    · obtain ⟨k, rfl⟩ : ∃ k, n = k + 1 := ⟨n - 1, by omega⟩
      have HW1 := Lib.hid (wA_yes (r := x.f1) (s := s) (st := st) (n := k) (m := M) q)
      obtain ⟨U, hV0⟩ : ∃ U, wH x.f1 s st A 7 0 M = U := ⟨_, rfl⟩
      have HW2 := Lib.hid (by rw [← HWW.out, HW1.out, hV0] : wA x.f1 s st k (A + st) U = W)
      have HV := Lib.hid hV0
      clear hV0 HW1 HWW
      go_wp2_with fail
      obtain ⟨wo, rfl⟩ : ∃ wo : World, wo = wr := ⟨_, rfl⟩
      go_loopw [8, 10] (fun m h wr => ∃ (N H : Int) (j : Nat), m = .int .i64 N ∧ h = .int .i64 H ∧ (0 ≤ N ∧ N ≤ 359999) ∧ (0 ≤ H ∧ H ≤ 180000) ∧ 90000 < H + 15000 * (j : Int) ∧ wH x.f1 s st A j H N = U ∧ Below w1.heap.size w1 wr) (fun _ h _ => (90001 - intOf h).toNat)
      case atStart => exact ⟨M, 0, 7, rfl, rfl, by omega, by omega, by omega, HV.out, hbl⟩
      case round =>
        obtain ⟨N, H, j, rfl, rfl, ⟨n0, n1⟩, ⟨g0, g1⟩, hj, hv, hbl2⟩ := hrel
        have HVV := Lib.hid hv
        clear hv
        by_cases q2 : H ≤ 90000
        · obtain ⟨i, rfl⟩ : ∃ i, j = i + 1 := ⟨j - 1, by omega⟩
          have HV2 := Lib.hid (by rw [← HVV.out, wH_yes q2] : wH x.f1 s st A i (H + st) (max N (errV x.f1 s A H)) = U)
          obtain ⟨e0, e1⟩ := errV_bd x.f1 s A H
          obtain ⟨f0, f1⟩ := nrm_bd (90000 - angA (viewV x.f1 s A H))
          obtain ⟨k0, k1⟩ := angB_bd (viewV x.f1 s A H)
          obtain ⟨u0, u1⟩ := max_bd n0 n1 e1
          have hv2 := (viewV_bd (s := s) A H (by have := HR.out; omega) HR.out.2 V.out).mono (n := 2000000) (by omega)
          have v1 := (dirV_bd A H).mono (n := 2000000) (by omega)
          have v2 := (dirV_bd (viewA x.f1 s A H) (viewB x.f1 s A H)).mono (n := 2000000) (by omega)
          have HBL := HB.trans (hbl2.mono HB.size)
          have x2 := x0.below hbl2 x0.lt
          have b2 := b0.below hbl2 b0.lt
          have d0 := x2.cell 0
          have d1 := x2.cell 1
          have d2 := x2.cell 2
          simp at d0 d1 d2
          have dl := x2.lt
          have c0 := b2.cell 0
          have c1 := b2.cell 1
          have c2 := b2.cell 2
          simp at c0 c1 c2
          have cl := b2.lt
          have e2 : sepV (dirV A H) (dirV (viewA x.f1 s A H) (viewB x.f1 s A H)) = errV x.f1 s A H := rfl
          have EE := Lib.hid e2
          clear e2
          have va : I64 (viewA x.f1 s A H) := ⟨by unfold viewA; omega, by unfold viewA; omega⟩
          have vb : I64 (viewB x.f1 s A H) := ⟨by unfold viewB; omega, by unfold viewB; omega⟩
          go_wp2_with fail
          refine (viewOf_any x s A H _ HR.out V.out ⟨by omega, by omega⟩ ⟨by omega, by omega⟩ (HT.out.below HBL)).mono ?_
          rintro e w5 ⟨rfl, hb5⟩
          replace hbl2 := hbl2.trans (hb5.mono hbl2.size)
          replace HBL := HBL.trans (hb5.mono HBL.size)
          go_wp2_with fail
          refine (domeAngles_any (viewV x.f1 s A H) hv2 _ (HT.out.below HBL)).mono ?_
          rintro e w6 ⟨rfl, hb6⟩
          replace hbl2 := hbl2.trans (hb6.mono hbl2.size)
          replace HBL := HBL.trans (hb6.mono HBL.size)
          go_wp2_with fail
          refine (directionOf_any _ _ ⟨by omega, by omega⟩ ⟨by omega, by omega⟩ _ (HT.out.below HBL)).mono ?_
          rintro e w7 ⟨rfl, hb7⟩
          replace hbl2 := hbl2.trans (hb7.mono hbl2.size)
          replace HBL := HBL.trans (hb7.mono HBL.size)
          go_wp2_with fail
          refine (directionOf_any (viewA x.f1 s A H) (viewB x.f1 s A H) va vb _ (HT.out.below HBL)).mono ?_
          rintro e w8 ⟨rfl, hb8⟩
          replace hbl2 := hbl2.trans (hb8.mono hbl2.size)
          replace HBL := HBL.trans (hb8.mono HBL.size)
          go_wp2_with fail
          refine (separation_any (dirV A H) (dirV (viewA x.f1 s A H) (viewB x.f1 s A H)) v1 v2 _ (HT.out.below HBL)).mono ?_
          rintro e w9 ⟨rfl, hb9⟩
          replace hbl2 := hbl2.trans (hb9.mono hbl2.size)
          rw [EE.out]
          have hm : (if N < errV x.f1 s A H then errV x.f1 s A H else N) = max N (errV x.f1 s A H) := by split <;> omega
          go_wp2_with fail
          go_roundw
          case rel => exact ⟨_, _, i, rfl, rfl, ⟨u0, u1⟩, ⟨by omega, by omega⟩, by omega, HV2.out, hbl2⟩
          case measure => simp [intOf]; omega
        · have HN := HVV.out
          rw [wH_no q2] at HN
          subst HN
          go_wp2_with fail
          go_roundw
          case rel => exact ⟨_, _, k, rfl, rfl, ⟨n0, n1⟩, ⟨by omega, by omega⟩, by omega, HW2.out, hbl2⟩
          case measure => simp [intOf]; omega
    · have HN := HWW.out
      rw [wA_no q] at HN
      subst HN
      go_wp2_with fail
      go_ret2
      exact ⟨ret_tup E.out.1.symm E.out.2.symm, HB.trans (hbl.mono HB.size)⟩
end Go.Proofs.YthjllledhcfnhaaDoor
