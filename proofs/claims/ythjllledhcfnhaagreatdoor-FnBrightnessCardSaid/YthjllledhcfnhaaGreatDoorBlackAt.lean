/- BlackAt and UniformBlack. Conditions: the slices read as told; the variable sines holds its table. -/
import Derived.Test.YthjllledhcfnhaaGreatDoorBlack
import Derived.Test.YthjllledhcfnhaaGreatDoorInts
import Derived.Test.YthjllledhcfnhaaGreatDoorBrightAt
import Derived.Test.YthjllledhcfnhaaGreatDoorMinMax
namespace Go.Ks
/-- the least and the greatest of the first k numbers that are not negative; -1 if there is none -/
def loTo (f : Nat → Int) : Nat → Int
  | 0 => -1
  | k + 1 => if 0 ≤ f k ∧ (loTo f k < 0 ∨ f k < loTo f k) then f k else loTo f k
def hiTo (f : Nat → Int) : Nat → Int
  | 0 => -1
  | k + 1 => max (hiTo f k) (f k)
theorem lo_yes {f : Nat → Int} {k : Nat} (h : 0 ≤ f k ∧ (loTo f k < 0 ∨ f k < loTo f k)) : loTo f (k + 1) = f k := by rw [loTo, if_pos h]
theorem lo_no {f : Nat → Int} {k : Nat} (h : ¬ (0 ≤ f k ∧ (loTo f k < 0 ∨ f k < loTo f k))) : loTo f (k + 1) = loTo f k := by rw [loTo, if_neg h]
theorem lohi {f : Nat → Int} : ∀ k, (∀ j, j < k → -1 ≤ f j ∧ f j ≤ 10000000) → (hiTo f k = -1 ∧ loTo f k = -1) ∨ (0 ≤ loTo f k ∧ loTo f k ≤ hiTo f k ∧ hiTo f k ≤ 10000000)
  | 0, _ => .inl ⟨rfl, rfl⟩
  | k + 1, h => by
    have ih := lohi k (fun j hj => h j (by omega))
    have hk := h k (by omega)
    unfold loTo hiTo
    split <;> omega
end Go.Ks
namespace Go.Proofs.YthjllledhcfnhaaGreatDoor
open Go.RowKit Go.Lib Go.Ks
theorem ret_tup3' {a a' b b' c c' : Int} (h : a = a') (h' : b = b') (h'' : c = c') : Ending.returned (.tuple #[.int .i64 a, .int .i64 b, .int .i64 c]) = .returned (.tuple #[.int .i64 a', .int .i64 b', .int .i64 c']) := by rw [h, h', h'']
theorem results_t3 {fn : Func} {t u v : Tmp} (h : fn.results = #[.tmp t, .tmp u, .tmp v]) (tmps : Array Value) (P : Program) (w : World) :
    (results fn tmps).run P w = .ok (.tuple #[tmps.getD t undef, tmps.getD u undef, tmps.getD v undef]) w := by
  simp [results, h]
def spB (n : Nat) (l : Nat → ProjectorD) (st : Int) (k : Nat) : Int := brightB n l (spX st k) (spY st k)
theorem spB_bd {n : Nat} {l : Nat → ProjectorD} {st : Int} (hn : n ≤ 6) (hp : ∀ k, k < n → projB (l k) = true) (k : Nat) : -1 ≤ spB n l st k ∧ spB n l st k ≤ 10000000 := by
  unfold spB brightB
  split
  · omega
  · rename_i z
    have := bright_bd (az := spX st k) (alt := spY st k) hn (fun k hk => (proj_dir (hp k hk)).2.2.1.1) (fun k hk => (proj_dir (hp k hk)).2.2.2) z
    omega
def rgL (n : Nat) (l : Nat → ProjectorD) (st : Int) : Int := if hiTo (spB n l st) (nSp st) < 0 then 0 else loTo (spB n l st) (nSp st)
def rgH (n : Nat) (l : Nat → ProjectorD) (st : Int) : Int := if hiTo (spB n l st) (nSp st) < 0 then 0 else hiTo (spB n l st) (nSp st)
def rgC (n : Nat) (l : Nat → ProjectorD) (st : Int) : Int := if hiTo (spB n l st) (nSp st) < 0 then 3 else 0
noncomputable def mRgL (n : Nat) (l : Nat → ProjectorD) (st : Int) : Int := if projsB n l = true ∧ inB st 10000 90000 = true then rgL n l st else 0
noncomputable def mRgH (n : Nat) (l : Nat → ProjectorD) (st : Int) : Int := if projsB n l = true ∧ inB st 10000 90000 = true then rgH n l st else 0
noncomputable def mRgC (n : Nat) (l : Nat → ProjectorD) (st : Int) : Int := if projsB n l = true then (if inB st 10000 90000 = true then rgC n l st else 2) else 1
section
variable {n : Nat} {l : Nat → ProjectorD} {st : Int}
theorem mRg_no (q : projsB n l = false) : mRgL n l st = 0 ∧ mRgH n l st = 0 ∧ mRgC n l st = 1 := by simp [mRgL, mRgH, mRgC, q]
theorem mRg_out (q : projsB n l = true) (q' : inB st 10000 90000 = false) : mRgL n l st = 0 ∧ mRgH n l st = 0 ∧ mRgC n l st = 2 := by simp [mRgL, mRgH, mRgC, q, q']
theorem mRg_in (q : projsB n l = true) (q' : inB st 10000 90000 = true) : mRgL n l st = rgL n l st ∧ mRgH n l st = rgH n l st ∧ mRgC n l st = rgC n l st := by simp [mRgL, mRgH, mRgC, q, q']
end
end Go.Proofs.YthjllledhcfnhaaGreatDoor
namespace Go.Proofs.YthjllledhcfnhaaGreatDoor
open Go.RowKit Go.Lib Go.Ks
noncomputable def mBlV (n : Nat) (l : Nat → ProjectorD) (m : Nat) (b : Nat → Int) (az alt : Int) : Int := if projsB n l = true ∧ blacksB n m b = true ∧ upB az alt = true then blkTo l b az alt n else 0
noncomputable def mBlC (n : Nat) (l : Nat → ProjectorD) (m : Nat) (b : Nat → Int) (az alt : Int) : Int := if projsB n l = true then (if blacksB n m b = true ∧ upB az alt = true then 0 else 2) else 1
section
variable {n m : Nat} {l : Nat → ProjectorD} {b : Nat → Int} {az alt : Int}
theorem mBl_no (q : projsB n l = false) : mBlV n l m b az alt = 0 ∧ mBlC n l m b az alt = 1 := by simp [mBlV, mBlC, q]
theorem mBl_no2 (q : projsB n l = true) (q' : blacksB n m b = false) : mBlV n l m b az alt = 0 ∧ mBlC n l m b az alt = 2 := by simp [mBlV, mBlC, q, q']
theorem mBl_out (q : projsB n l = true) (q' : upB az alt = false) : mBlV n l m b az alt = 0 ∧ mBlC n l m b az alt = 2 := by simp [mBlV, mBlC, q, q']
theorem mBl_in (q : projsB n l = true) (q1 : blacksB n m b = true) (q' : upB az alt = true) : mBlV n l m b az alt = blkTo l b az alt n ∧ mBlC n l m b az alt = 0 := by simp [mBlV, mBlC, q, q1, q']
theorem blacks_lev (h : blacksB n m b = true) : m = n ∧ ∀ k, k < n → 0 ≤ b k ∧ b k ≤ 1000 := by
  obtain ⟨rfl, h2⟩ := blacks_of h
  exact ⟨rfl, fun k hk => inB_iff.1 (h2 k hk)⟩
end
set_option maxHeartbeats 1000000 in
theorem implBlackAt_any (A : Option Addr) (n c : Nat) (l : Nat → ProjectorD) (A2 : Option Addr) (m c2 : Nat) (b : Nat → Int) (az : Int) (alt : Int) (w : World) (hn : n ≤ 1048576) (hs : Sl w A (n * 5) (ProjectorC l)) (hg : ∀ k, k < n → ProjectorOk (l k)) (hm : m ≤ 1048576) (hsb : Sl w A2 (m * 1) (IntC b)) (_hgb : ∀ k, k < m → -9223372036854775808 ≤ b k ∧ b k ≤ 9223372036854775807) (haz : -9223372036854775808 ≤ az ∧ az ≤ 9223372036854775807) (halt : -9223372036854775808 ≤ alt ∧ alt ≤ 9223372036854775807) (hT : Tab w) :
    Calls Tryz.prog 17 #[.slice A n c, .slice A2 m c2, .int .i64 az, .int .i64 alt] w fun e w' => e = .returned (.tuple #[.int .i64 (mBlV n l m b az alt), .int .i64 (mBlC n l m b az alt)]) ∧ Below w.heap.size w w' := by
  have HT := Lib.hid hT
  clear hT
  rcases bool_cases (projsB n l) with q | q
  · have E := Lib.hid (mBl_no (m := m) (b := b) (az := az) (alt := alt) q)
    go_enter Tryz.func17, Tryz.ntmps17
    go_wp2_with fail
    refine (validProjectors_any _ _ _ l _ hn hs hg).mono ?_
    rintro e w1 ⟨rfl, hb1⟩
    go_wp2_with fail
    go_ret2
    exact ⟨ret_tup E.out.1.symm E.out.2.symm, hb1⟩
  have OK := Lib.hid (projs_all q)
  rcases bool_cases (blacksB n m b) with q1 | q1
  · have E := Lib.hid (mBl_no2 (az := az) (alt := alt) q q1)
    go_enter Tryz.func17, Tryz.ntmps17
    go_wp2_with fail
    refine (validProjectors_any _ _ _ l _ hn hs hg).mono ?_
    rintro e w1 ⟨rfl, hb1⟩
    go_wp2_with fail
    refine (areBlacks_any _ n _ _ m _ b _ (by omega) hm (hsb.below hb1)).mono ?_
    rintro e w2 ⟨rfl, hb2⟩
    have HB2 := hb1.trans (hb2.mono hb1.size)
    go_wp2_with fail
    go_ret2
    exact ⟨ret_tup E.out.1.symm E.out.2.symm, HB2⟩
  rcases bool_cases (upB az alt) with q' | q'
  · have E := Lib.hid (mBl_out (m := m) (b := b) q q')
    go_enter Tryz.func17, Tryz.ntmps17
    go_wp2_with fail
    refine (validProjectors_any _ _ _ l _ hn hs hg).mono ?_
    rintro e w1 ⟨rfl, hb1⟩
    go_wp2_with fail
    refine (areBlacks_any _ n _ _ m _ b _ (by omega) hm (hsb.below hb1)).mono ?_
    rintro e w2 ⟨rfl, hb2⟩
    have HB2 := hb1.trans (hb2.mono hb1.size)
    go_wp2_with fail
    refine (isDomeUp_eq _ _ _).mono ?_
    rintro e w1 ⟨rfl, rfl⟩
    go_wp2_with fail
    go_ret2
    exact ⟨ret_tup E.out.1.symm E.out.2.symm, HB2⟩
  have E := Lib.hid (mBl_in q q1 q')
  have LV := Lib.hid (blacks_lev q1)
  obtain rfl : m = n := LV.out.1
  go_enter Tryz.func17, Tryz.ntmps17
  go_wp2_with fail
  refine (validProjectors_any _ _ _ l _ hn hs hg).mono ?_
  rintro e w1 ⟨rfl, hb1⟩
  go_wp2_with fail
  refine (areBlacks_any _ m _ _ m _ b _ (by omega) hm (hsb.below hb1)).mono ?_
  rintro e w2 ⟨rfl, hb2⟩
  have HB2 := hb1.trans (hb2.mono hb1.size)
  go_wp2_with fail
  refine (isDomeUp_eq _ _ _).mono ?_
  rintro e w1 ⟨rfl, rfl⟩
  go_wp2_with fail
  clear q q1 q'
  refine (blackAt_any _ m _ _ _ l b az alt _ OK.out.1 (hs.below HB2) (hsb.below HB2) OK.out.2 LV.out.2 haz halt (HT.out.below HB2)).mono ?_
  rintro e w4 ⟨rfl, hb4⟩
  go_wp2_with fail
  go_ret2
  exact ⟨ret_tup E.out.1.symm E.out.2.symm, HB2.trans (hb4.mono HB2.size)⟩
/-- the greatest black of the first k spots -/
def ubTo (n : Nat) (l : Nat → ProjectorD) (b : Nat → Int) (st : Int) : Nat → Int
  | 0 => 0
  | k + 1 => max (ubTo n l b st k) (blkTo l b (spX st k) (spY st k) n)
theorem ub_bd {n : Nat} {l : Nat → ProjectorD} {b : Nat → Int} {st : Int} (hn : n ≤ 6) (hb : ∀ k, k < n → 0 ≤ b k ∧ b k ≤ 1000) : ∀ k, 0 ≤ ubTo n l b st k ∧ ubTo n l b st k ≤ 10000
  | 0 => by simp [ubTo]
  | k + 1 => by
    have ih := ub_bd (l := l) (st := st) hn hb k
    have h := blk_bd (l := l) (spX st k) (spY st k) hb n (Nat.le_refl _)
    unfold ubTo
    omega
noncomputable def mUbV (n : Nat) (l : Nat → ProjectorD) (m : Nat) (b : Nat → Int) (st : Int) : Int := if projsB n l = true ∧ blacksB n m b = true ∧ inB st 10000 90000 = true then ubTo n l b st (nSp st) else 0
noncomputable def mUbC (n : Nat) (l : Nat → ProjectorD) (m : Nat) (b : Nat → Int) (st : Int) : Int := if projsB n l = true then (if blacksB n m b = true ∧ inB st 10000 90000 = true then 0 else 2) else 1
section
variable {n m : Nat} {l : Nat → ProjectorD} {b : Nat → Int} {st : Int}
theorem mUb_no (q : projsB n l = false) : mUbV n l m b st = 0 ∧ mUbC n l m b st = 1 := by simp [mUbV, mUbC, q]
theorem mUb_no2 (q : projsB n l = true) (q' : blacksB n m b = false) : mUbV n l m b st = 0 ∧ mUbC n l m b st = 2 := by simp [mUbV, mUbC, q, q']
theorem mUb_out (q : projsB n l = true) (q' : inB st 10000 90000 = false) : mUbV n l m b st = 0 ∧ mUbC n l m b st = 2 := by simp [mUbV, mUbC, q, q']
theorem mUb_in (q : projsB n l = true) (q1 : blacksB n m b = true) (q' : inB st 10000 90000 = true) : mUbV n l m b st = ubTo n l b st (nSp st) ∧ mUbC n l m b st = 0 := by simp [mUbV, mUbC, q, q1, q']
end
set_option maxHeartbeats 4000000 in
theorem implUniformBlack_any (A : Option Addr) (n c : Nat) (l : Nat → ProjectorD) (A2 : Option Addr) (m c2 : Nat) (b : Nat → Int) (st : Int) (w : World) (hn : n ≤ 1048576) (hs : Sl w A (n * 5) (ProjectorC l)) (hg : ∀ k, k < n → ProjectorOk (l k)) (hm : m ≤ 1048576) (hsb : Sl w A2 (m * 1) (IntC b)) (_hgb : ∀ k, k < m → -9223372036854775808 ≤ b k ∧ b k ≤ 9223372036854775807) (hst : -9223372036854775808 ≤ st ∧ st ≤ 9223372036854775807) (hT : Tab w) :
    Calls Tryz.prog 15 #[.slice A n c, .slice A2 m c2, .int .i64 st] w fun e w' => e = .returned (.tuple #[.int .i64 (mUbV n l m b st), .int .i64 (mUbC n l m b st)]) ∧ Below w.heap.size w w' := by
  have HT := Lib.hid hT
  clear hT
  rcases bool_cases (projsB n l) with q | q
  · have E := Lib.hid (mUb_no (m := m) (b := b) (st := st) q)
    go_enter Tryz.func15, Tryz.ntmps15
    go_wp2_with fail
    refine (validProjectors_any _ _ _ l _ hn hs hg).mono ?_
    rintro e w1 ⟨rfl, hb1⟩
    go_wp2_with fail
    go_ret2
    exact ⟨ret_tup E.out.1.symm E.out.2.symm, hb1⟩
  have OK := Lib.hid (projs_all q)
  rcases bool_cases (inB st 10000 90000) with q' | q'
  · have E := Lib.hid (mUb_out (m := m) (b := b) q q')
    go_enter Tryz.func15, Tryz.ntmps15
    go_wp2_with fail
    refine (validProjectors_any _ _ _ l _ hn hs hg).mono ?_
    rintro e w1 ⟨rfl, hb1⟩
    go_wp2_with fail
    refine (spotsOf_bad _ _ q').mono ?_
    rintro e w1 ⟨rfl, rfl⟩
    go_wp2_with fail
    go_ret2
    exact ⟨ret_tup E.out.1.symm E.out.2.symm, hb1⟩
  obtain ⟨st1, st2⟩ := inB_iff.1 q'
  rcases bool_cases (blacksB n m b) with q1 | q1
  · have E := Lib.hid (mUb_no2 (st := st) q q1)
    go_enter Tryz.func15, Tryz.ntmps15
    go_wp2_with fail
    refine (validProjectors_any _ _ _ l _ hn hs hg).mono ?_
    rintro e w1 ⟨rfl, hb1⟩
    go_wp2_with fail
    refine (spotsOf_any _ _ st1 st2).mono ?_
    rintro e w3 ⟨⟨v, rfl, hp⟩, hb3⟩
    have HB3 := hb1.trans (hb3.mono hb1.size)
    go_wp2_with fail
    refine (areBlacks_any _ n _ _ m _ b _ (by omega) hm (hsb.below HB3)).mono ?_
    rintro e w2 ⟨rfl, hb2⟩
    have HB2 := HB3.trans (hb2.mono HB3.size)
    go_wp2_with fail
    go_ret2
    exact ⟨ret_tup E.out.1.symm E.out.2.symm, HB2⟩
  have E := Lib.hid (mUb_in q q1 q')
  have LV := Lib.hid (blacks_lev q1)
  obtain rfl : m = n := LV.out.1
  have np := nSp_pos (st := st) (by omega)
  have nl := nSp_le st1
  have UB := Lib.hid (fun k => ub_bd (l := l) (st := st) OK.out.1 LV.out.2 k)
  go_enter Tryz.func15, Tryz.ntmps15
  go_wp2_with fail
  refine (validProjectors_any _ _ _ l _ hn hs hg).mono ?_
  rintro e w1 ⟨rfl, hb1⟩
  go_wp2_with fail
  clear q q'
  refine (spotsOf_any _ _ st1 st2).mono ?_
  rintro e w3 ⟨⟨v, rfl, hp⟩, hb3⟩
  obtain ⟨A3, c3, g, rfl, hnc, hpr⟩ := hp.read
  clear hp
  have HB3 := hb1.trans (hb3.mono hb1.size)
  go_wp2_with fail
  refine (areBlacks_any _ m _ _ m _ b _ (by omega) hm (hsb.below HB3)).mono ?_
  rintro e w2 ⟨rfl, hb2⟩
  have HB2 := HB3.trans (hb2.mono HB3.size)
  replace hpr := hpr.below hb2
  go_wp2_with fail
  clear q1
  obtain ⟨wo, rfl⟩ : ∃ wo : World, wo = w2 := ⟨_, rfl⟩
  go_loopw [10, 31, 12] (fun s i _ wr => ∃ k : Nat, k ≤ nSp st ∧ s = .int .i64 (ubTo m l b st k) ∧ i = .int .i64 (k : Int) ∧ Below wo.heap.size wo wr) (fun _ i _ _ => nSp st - (intOf i).toNat)
  case atStart => exact ⟨0, Nat.zero_le _, rfl, rfl, Below.refl _ _⟩
  case round =>
    obtain ⟨k, hk, rfl, rfl, hbi⟩ := hrel
    obtain ⟨u0, u1⟩ := UB.out k
    have hpr2 := hpr.below hbi
    have HBI := HB2.trans (hbi.mono HB2.size)
    by_cases hlt : k < nSp st
    · obtain ⟨bb, off, rfl, hbb, hcc⟩ := hpr2.1 (by omega)
      obtain ⟨pg, p0, p1⟩ := hpr2.2 k hlt
      have c0 := hcc k hlt
      have SI := Lib.hid (sp_i64 (st := st) (by omega) hlt)
      have hs2 := Lib.hid (hs.below HBI)
      have hsb2 := Lib.hid (hsb.below HBI)
      have TT := Lib.hid (HT.out.below HBI)
      have EU : max (ubTo m l b st k) (blkTo l b (spX st k) (spY st k) m) = ubTo m l b st (k + 1) := rfl
      have EUU := Lib.hid EU
      clear hcc EU
      go_wp2_with fail
      obtain ⟨X, hX⟩ : ∃ X, blkTo l b (spX st k) (spY st k) m = X := ⟨_, rfl⟩
      have BX := blk_bd (l := l) (spX st k) (spY st k) LV.out.2 m (Nat.le_refl _)
      rw [hX] at BX
      have HXX := Lib.hid hX
      clear hX
      refine wp_region_ext_tail 1 10 (by kernel_rfl) (by kernel_rfl) (fun d _ _ _ _ h => by cases d <;> exact h) ?_
      simp only [List.take_succ_cons, List.take_zero, List.drop_succ_cons, List.drop_zero]
      repeat (go_big_quiet_step ((go_at_call 54; exact quiet_ext (blackAt_any _ m _ _ _ l b (spX st k) (spY st k) _ OK.out.1 (hs2.out.below (ExtW.below _)) (hsb2.out.below (ExtW.below _)) OK.out.2 LV.out.2 SI.out.1 SI.out.2 (TT.out.below (ExtW.below _))))))
      refine wpQuiet_nil ?_
      intro e1
      have hbj := hbi.trans (e1.below.mono hbi.size)
      rw [HXX.out]
      rw [HXX.out] at EUU
      go_wp2_with fail
      go_roundw
      case rel => exact ⟨k + 1, by omega, ret_num (by rw [← EUU.out]; split <;> omega), by go_num, hbj⟩
      case measure => simp [intOf]; omega
    · obtain rfl : k = nSp st := by omega
      go_wp2_with fail
      go_ret2
      exact ⟨ret_tup E.out.1.symm E.out.2.symm, HBI⟩
end Go.Proofs.YthjllledhcfnhaaGreatDoor
