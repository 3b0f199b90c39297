/- The spots for a step. Conditions: the step is one. -/
import Derived.Test.YthjllledhcfnhaaGreatDoorSmallEq
import Derived.Test.YthjllledhcfnhaaGreatDoorAppendStep
namespace Go.Proofs.YthjllledhcfnhaaGreatDoor
open Go.RowKit Go.Lib Go.Ks

/-- so many azimuths, so many altitudes -/
def nA (st : Int) : Nat := ((360000 + st - 1) / st).toNat
def nH (st : Int) : Nat := (90000 / st + 1).toNat
def nSp (st : Int) : Nat := nH st * nA st
def spX (st : Int) (k : Nat) : Int := st * ((k % nA st : Nat) : Int)
def spY (st : Int) (k : Nat) : Int := st * ((k / nA st : Nat) : Int)
section
variable {st : Int}
theorem nA_iff (h : 0 < st) (i : Nat) : st * (i : Int) < 360000 ↔ i < nA st := by
  unfold nA
  have e := Int.mul_ediv_add_emod (360000 + st - 1) st
  have m0 := Int.emod_nonneg (360000 + st - 1) (by omega : st ≠ 0)
  have m1 := Int.emod_lt_of_pos (360000 + st - 1) h
  generalize (360000 + st - 1) / st = q at *
  constructor
  · intro hl
    have : (i : Int) < q := by
      refine Int.lt_of_not_ge (fun hq => ?_)
      have := Int.mul_le_mul_of_nonneg_left hq (by omega : 0 ≤ st)
      omega
    omega
  · intro hl
    have hq : (i : Int) + 1 ≤ q := by omega
    have := Int.mul_le_mul_of_nonneg_left hq (by omega : 0 ≤ st)
    rw [Int.mul_add, Int.mul_one] at this
    omega
theorem nH_iff (h : 0 < st) (i : Nat) : st * (i : Int) ≤ 90000 ↔ i < nH st := by
  unfold nH
  have e := Int.mul_ediv_add_emod 90000 st
  have m0 := Int.emod_nonneg 90000 (by omega : st ≠ 0)
  have m1 := Int.emod_lt_of_pos 90000 h
  generalize (90000 : Int) / st = q at *
  constructor
  · intro hl
    have : (i : Int) < q + 1 := by
      refine Int.lt_of_not_ge (fun hq => ?_)
      have := Int.mul_le_mul_of_nonneg_left hq (by omega : 0 ≤ st)
      rw [Int.mul_add, Int.mul_one] at this
      omega
    omega
  · intro hl
    have hq : (i : Int) ≤ q := by omega
    have := Int.mul_le_mul_of_nonneg_left hq (by omega : 0 ≤ st)
    omega
theorem nA_le (h : 10000 ≤ st) : nA st ≤ 36 := by
  refine Nat.le_of_not_lt (fun h' => ?_)
  have h2 := (nA_iff (by omega) 36).2 h'
  omega
theorem nA_pos (h : 0 < st) : 0 < nA st := (nA_iff h 0).1 (by omega)
theorem nH_le (h : 10000 ≤ st) : nH st ≤ 10 := by
  refine Nat.le_of_not_lt (fun h' => ?_)
  have h2 := (nH_iff (by omega) 10).2 h'
  omega
theorem nH_pos (h : 0 < st) : 0 < nH st := (nH_iff h 0).1 (by omega)
theorem nSp_le (h : 10000 ≤ st) : nSp st ≤ 360 := Nat.le_trans (Nat.mul_le_mul (nH_le h) (nA_le h)) (by omega)
theorem nSp_pos (h : 0 < st) : 0 < nSp st := Nat.mul_pos (nH_pos h) (nA_pos h)
theorem spX_at {r i : Nat} (hi : i < nA st) : spX st (r * nA st + i) = st * (i : Int) := by
  unfold spX
  rw [Nat.mul_comm, Nat.mul_add_mod, Nat.mod_eq_of_lt hi]
theorem spY_at {r i : Nat} (hi : i < nA st) : spY st (r * nA st + i) = st * (r : Int) := by
  unfold spY
  rw [Nat.mul_comm, Nat.mul_add_div (by omega), Nat.div_eq_of_lt hi, Nat.add_zero]
theorem sp_up (h : 0 < st) {k : Nat} (hk : k < nSp st) : (0 ≤ spX st k ∧ spX st k ≤ 359999) ∧ (0 ≤ spY st k ∧ spY st k ≤ 90000) := by
  have ha := nA_pos h
  have h1 : k % nA st < nA st := Nat.mod_lt _ ha
  have h2 : k / nA st < nH st := (Nat.div_lt_iff_lt_mul ha).2 hk
  have e1 := (nA_iff h _).2 h1
  have e2 := (nH_iff h _).2 h2
  have p1 : 0 ≤ st * ((k % nA st : Nat) : Int) := Int.mul_nonneg (by omega) (Int.natCast_nonneg _)
  have p2 : 0 ≤ st * ((k / nA st : Nat) : Int) := Int.mul_nonneg (by omega) (Int.natCast_nonneg _)
  exact ⟨⟨p1, Int.le_of_lt_add_one e1⟩, p2, e2⟩
end

/-- n pairs, each in a slice of its own -/
def Pairs (w : World) (base : Nat) (v : Value) (n : Nat) (x y : Nat → Int) : Prop :=
  ∃ g : Nat → Nat, Row w base 38 1 v n (fun j => .slice (some ⟨g j, 0, none⟩) 2 2) ∧ ∀ j, j < n → (base ≤ g j ∧ ∀ i, i < j → g i ≠ g j) ∧ Blk w (g j) 2 #[.int .i64 (x j), .int .i64 (y j)]
section
variable {w w' : World} {base n : Nat} {v v' : Value} {x y : Nat → Int}
theorem Pairs.below (h : Pairs w base v n x y) (hb : Below w.heap.size w w') : Pairs w' base v n x y := by
  obtain ⟨g, hr, hg⟩ := h
  exact ⟨g, hr.below hb, fun j hj => ⟨(hg j hj).1, (hg j hj).2.below hb (hg j hj).2.lt⟩⟩
theorem Pairs.nil (w : World) (base : Nat) (x y : Nat → Int) : Pairs w base (.slice none 0 0) 0 x y := ⟨fun _ => 0, Row.nil _ _ _ _ _, fun j hj => absurd hj (by omega)⟩
theorem Pairs.empty (w : World) (x y : Nat → Int) (hb : base ≤ w.heap.size) : Pairs (w.alloc (.cells #[] 38)) base (.slice (some ⟨w.heap.size, 0, none⟩) 0 0) 0 x y := ⟨fun _ => 0, Row.empty _ _ _ _ hb, fun j hj => absurd hj (by omega)⟩
end
theorem Tryz.infoPair : (Tryz.prog.info? 38).map (fun i => (i.zero, i.size, i.bytes)) = some (some (.slice none 0 0), 1, 24) := by kernel_rfl

set_option maxHeartbeats 2000000 in
theorem spotsOf_any (st : Int) (w : World) (h1 : 10000 ≤ st) (h2 : st ≤ 90000) :
    Calls Tryz.prog 52 #[.int .i64 st] w fun e w' => (∃ v, e = .returned (.tuple #[v, .int .i64 0]) ∧ Pairs w' w.heap.size v (nSp st) (spX st) (spY st)) ∧ Below w.heap.size w w' := by
  have ha := nA_le h1
  have hh := nH_le h1
  have st0 : 0 < st := by omega
  have i1 : inB st 10000 90000 = true := inB_iff.2 ⟨h1, h2⟩
  obtain ⟨i0, hi, hz0, hz1, hz2⟩ := info_parts Tryz.infoPair
  go_enter Tryz.func52, Tryz.ntmps52
  go_wp2_with fail
  refine (within_eq _ _ _ _).mono ?_
  rintro e w1 ⟨rfl, rfl⟩
  go_wp2_with fail
  go_loopw [4, 5, 6] (fun v a b wr => ∃ r : Nat, r ≤ nH st ∧ a = .int .i64 (st * (r : Int)) ∧ Pairs wr w.heap.size v (r * nA st) (spX st) (spY st) ∧ Below w.heap.size w wr) (fun _ a _ _ => (90001 - intOf a).toNat)
  case atStart => exact ⟨0, Nat.zero_le _, by simp, by rw [Nat.zero_mul]; exact (Pairs.nil _ _ _ _), Below.refl _ _⟩
  case round =>
    obtain ⟨r, hr, rfl, hrow, hbl⟩ := hrel
    have hiff := nH_iff st0 r
    have r0 : 0 ≤ st * (r : Int) := Int.mul_nonneg (by omega) (by omega)
    have rs : st * ((r + 1 : Nat) : Int) = st * (r : Int) + st := by rw [Int.natCast_add, Int.mul_add]; simp
    have hrm : r * nA st ≤ 10 * 36 := Nat.mul_le_mul (by omega) ha
    have hy : ∀ i, i < nA st → spY st (r * nA st + i) = st * (r : Int) := fun i hi => spY_at hi
    have HY := Lib.hid hy
    clear hy
    obtain ⟨Y, hY⟩ : ∃ Y, Y = st * (r : Int) := ⟨_, rfl⟩
    rw [← hY] at hiff r0 rs HY ⊢
    have HHY := Lib.hid hY
    clear hY
    by_cases hlt : r < nH st
    · have hyb := hiff.2 hlt
      have hd : decide (Y ≤ 90000) = true := by simp; omega
      go_wp2_with fail
      clear hd
      obtain ⟨wo, rfl⟩ : ∃ wo : World, wo = wr := ⟨_, rfl⟩
      go_loopw [4, 6] (fun v b wr => ∃ i : Nat, i ≤ nA st ∧ b = .int .i64 (st * (i : Int)) ∧ Pairs wr w.heap.size v (r * nA st + i) (spX st) (spY st) ∧ Below w.heap.size w wr) (fun _ b _ => (360000 - intOf b).toNat)
      case atStart => exact ⟨0, Nat.zero_le _, by simp, hrow, hbl⟩
      case round =>
        obtain ⟨i, hi', rfl, hrow2, hbl2⟩ := hrel
        have hiff2 := nA_iff st0 i
        have i00 : 0 ≤ st * (i : Int) := Int.mul_nonneg (by omega) (by omega)
        have is : st * ((i + 1 : Nat) : Int) = st * (i : Int) + st := by rw [Int.natCast_add, Int.mul_add]; simp
        obtain ⟨X, hX⟩ : ∃ X, X = st * (i : Int) := ⟨_, rfl⟩
        rw [← hX] at hiff2 i00 is ⊢
        have HHX := Lib.hid hX
        clear hX
        by_cases hlt2 : i < nA st
        · have hxb := hiff2.2 hlt2
          have hx : spX st (r * nA st + i) = X := (spX_at hlt2).trans HHX.out.symm
          have hy : spY st (r * nA st + i) = Y := HY.out i hlt2
          have HXY := Lib.hid (And.intro hx hy)
          clear hx hy
          obtain ⟨g, hg1, hg2⟩ := hrow2
          have hsz := hbl2.size
          have hne : ∀ j, j < r * nA st + i → _ := fun j hj => Row.apart hg1 (hg2 j hj).2 (by decide)
          have HNE := Lib.hid hne
          have HG2 := Lib.hid hg2
          clear hne hg2
          have hcong : Row wr w.heap.size 38 1 _ (r * nA st + i) (fun j => .slice (some ⟨if j = r * nA st + i then wr.heap.size else g j, 0, none⟩) 2 2) := hg1.congr (fun j hj => by rw [if_neg (by omega)])
          go_wp2_with (at_builtin; refine wpList_append_row rfl _ _ 87 rfl w.heap.size 38 i0 _ 1 24 Tryz.underlying87 hi hz0 hz1 hz2 rfl (by decide) _ (r * nA st + i) (fun j => .slice (some ⟨if j = r * nA st + i then wr.heap.size else g j, 0, none⟩) 2 2) rfl ((hcong.alloc _).alloc _) (wr.heap.size + 1) 1 ?c0 ?c1 ?c2 ?c3 ?c4 ?c5 ?_)
          case c0 => first | rfl | (simp; done)
          case c1 =>
            intro j hj
            obtain rfl : j = 0 := by omega
            simp
          case c2 =>
            intro j hj
            obtain rfl : j = 0 := by omega
            rfl
          case c3 => omega
          case c4 => omega
          case c5 => simp; omega
          intro v' w5 hrow5 hg5
          have hbl5 := Row.after ((hbl2.alloc hsz _).alloc (by simp; omega) _) (Nat.le_refl _) (by simp; omega) ((hcong.alloc _).alloc _) hg5 hrow5
          have hP : Pairs w5 w.heap.size v' (r * nA st + (i + 1)) (spX st) (spY st) := by
            refine ⟨_, hrow5, fun j hj => ?_⟩
            by_cases hje : j = r * nA st + i
            · rw [if_pos hje, hje, HXY.out.1, HXY.out.2]
              refine ⟨⟨hsz, fun i hi => by rw [if_neg (by omega)]; exact Nat.ne_of_lt (HG2.out i hi).2.lt⟩, ?_⟩
              have hb0 := ((Blk.new wr 2 #[.int .i64 X, .int .i64 Y]).alloc (.cells #[.slice (some ⟨wr.heap.size, 0, none⟩) 2 2] 38))
              exact blk_grown hb0 hg5 (Row.apart ((hcong.alloc _).alloc _) hb0 (by decide))
            · rw [if_neg hje]
              have := HG2.out j (by omega)
              exact ⟨⟨this.1.1, fun i hi => by rw [if_neg (by omega)]; exact this.1.2 i hi⟩, blk_grown ((this.2.alloc _).alloc _) hg5 (HNE.out j (by omega))⟩
          clear hg5 hrow5
          go_wp2_with fail
          go_roundw
          case rel => exact ⟨i + 1, by omega, ret_num is.symm, hP, hbl5⟩
          case measure => simp [intOf]; omega
        · obtain rfl : i = nA st := by omega
          go_wp2_with fail
          go_roundw
          case rel => exact ⟨r + 1, by omega, ret_num rs.symm, by rw [Nat.add_mul, Nat.one_mul]; exact hrow2, hbl2⟩
          case measure => simp [intOf]; omega
    · obtain rfl : r = nH st := by omega
      go_wp2_with fail
      go_ret2
      exact ⟨⟨_, rfl, hrow⟩, hbl⟩

theorem spotsOf_bad (st : Int) (w : World) (h : inB st 10000 90000 = false) :
    Calls Tryz.prog 52 #[.int .i64 st] w fun e w' => e = .returned (.tuple #[.slice none 0 0, .int .i64 2]) ∧ w = w' := by
  go_enter Tryz.func52, Tryz.ntmps52
  go_wp2_with fail
  refine (within_eq _ _ _ _).mono ?_
  rintro e w1 ⟨rfl, rfl⟩
  go_wp2_with fail
  go_ret2
  exact ⟨rfl, rfl⟩
/-- pairs, as they are read -/
def PrAt (w : World) (A : Option Addr) (n : Nat) (g : Nat → Nat) (x y : Nat → Int) : Prop :=
  Sl w A n (fun j => .slice (some ⟨g j, 0, none⟩) 2 2) ∧ ∀ j, j < n → g j < w.heap.size ∧ w.cell? ⟨g j, 0, none⟩ = some (.int .i64 (x j)) ∧ w.cell? ⟨g j, 1, none⟩ = some (.int .i64 (y j))
theorem Pairs.read {w : World} {base n : Nat} {v : Value} {x y : Nat → Int} (h : Pairs w base v n x y) : ∃ A c g, v = .slice A n c ∧ n ≤ c ∧ PrAt w A n g x y := by
  obtain ⟨g, hr, hg⟩ := h
  obtain ⟨A, c, rfl, hc, hown, _⟩ := hr.own
  have hs := hown.sl
  rw [Nat.mul_one] at hs
  exact ⟨A, c, g, rfl, hc, hs, fun j hj => ⟨(hg j hj).2.lt, (hg j hj).2.cell 0, (hg j hj).2.cell 1⟩⟩
theorem PrAt.below {w w' : World} {A : Option Addr} {n : Nat} {g : Nat → Nat} {x y : Nat → Int} (h : PrAt w A n g x y) (hb : Below w.heap.size w w') : PrAt w' A n g x y :=
  ⟨h.1.below hb, fun j hj => ⟨Nat.lt_of_lt_of_le (h.2 j hj).1 hb.size, (hb.cell (p := ⟨g j, 0, none⟩) (h.2 j hj).1).trans (h.2 j hj).2.1, (hb.cell (p := ⟨g j, 1, none⟩) (h.2 j hj).1).trans (h.2 j hj).2.2⟩⟩
end Go.Proofs.YthjllledhcfnhaaGreatDoor
