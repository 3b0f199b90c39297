/- DarkSpots. Conditions: the slice reads as projectors; the variable sines holds its table. -/
import Derived.Test.YthjllledhcfnhaaDoorShare
import Derived.Test.YthjllledhcfnhaaDoorWei
import Derived.Test.YthjllledhcfnhaaDoorInts
import Derived.Maps.Range
namespace Go.Ks
theorem Row.mono {w : World} {base base' : Nat} {e : TypeId} {size : Nat} {v : Value} {n : Nat} {f : Nat → Value} (h : Row w base e size v n f) (hb : base' ≤ base) : Row w base' e size v n f := by
  refine ⟨h.1, ?_⟩
  rcases h.2 with h2 | ⟨g, cap, cur, hv, hg, r⟩
  · exact .inl h2
  · exact .inr ⟨g, cap, cur, hv, by omega, r⟩
end Go.Ks
namespace Go.Proofs.YthjllledhcfnhaaDoor
open Go.RowKit Go.Lib Go.Ks
/-- pairs, whose blocks are told -/
def PairsG (w : World) (base : Nat) (v : Value) (n : Nat) (x y : Nat → Int) (g : Nat → Nat) : Prop :=
  Row w base 24 1 v n (fun j => .slice (some ⟨g j, 0, none⟩) 2 2) ∧ ∀ j, j < n → (base ≤ g j ∧ ∀ i, i < j → g i ≠ g j) ∧ Blk w (g j) 2 #[.int .i64 (x j), .int .i64 (y j)]
section
variable {w w' : World} {base n : Nat} {v : Value} {x y : Nat → Int} {g : Nat → Nat}
theorem PairsG.below (h : PairsG w base v n x y g) (hb : Below w.heap.size w w') : PairsG w' base v n x y g :=
  ⟨h.1.below hb, fun j hj => ⟨(h.2 j hj).1, (h.2 j hj).2.below hb (h.2 j hj).2.lt⟩⟩
theorem PairsG.grown {row : Option Nat} (h : PairsG w base v n x y g) (hg : w.grownBy w' row) (hr : ∀ k, row = some k → k < base) : PairsG w' base v n x y g := by
  refine ⟨h.1.kept hg (fun k hk he => ?_), fun j hj => ⟨(h.2 j hj).1, blk_grown (h.2 j hj).2 hg (fun he => ?_)⟩⟩
  · have := (h.1.lt k hk).1; have := hr k he; omega
  · have := (h.2 j hj).1.1; have := hr _ he; omega
theorem PairsG.readG (h : PairsG w base v n x y g) : ∃ A c, v = .slice A n c ∧ n ≤ c ∧ PrAt w A n g x y ∧ (A = none → c = 0) := by
  obtain ⟨hr, hg⟩ := h
  obtain ⟨A, c, rfl, hc, hown, hz⟩ := hr.own
  have hs := hown.sl
  rw [Nat.mul_one] at hs
  exact ⟨A, c, rfl, hc, ⟨hs, fun j hj => ⟨(hg j hj).2.lt, (hg j hj).2.cell 0, (hg j hj).2.cell 1⟩⟩, hz⟩
theorem PairsG.pr {A : Option Addr} {c : Nat} (h : PairsG w base (.slice A n c) n x y g) : PrAt w A n g x y := by
  obtain ⟨A', c', e, _, hp, _⟩ := h.readG
  cases e
  exact hp
/-- a choice of pairs -/
def pickV (g ix : Nat → Nat) (j : Nat) : Value := .slice (some ⟨g (ix j), 0, none⟩) 2 2
theorem PairsG.pick {base2 m : Nat} {v2 : Value} {ix : Nat → Nat} {lo : Nat} (h : PairsG w base v n x y g) (hr : Row w base2 24 1 v2 m (pickV g ix)) (hi : ∀ j, j < m → ix j < n) (hm : ∀ j, j < m → ∀ i, i < j → ix i < ix j) (h1 : lo ≤ base) (h2 : lo ≤ base2) :
    Pairs w lo v2 m (fun j => x (ix j)) (fun j => y (ix j)) :=
  ⟨fun j => g (ix j), hr.mono h2, fun j hj => ⟨⟨Nat.le_trans h1 (h.2 (ix j) (hi j hj)).1.1, fun i hij => (h.2 (ix j) (hi j hj)).1.2 (ix i) (hm j hj i hij)⟩, (h.2 (ix j) (hi j hj)).2⟩⟩
end
/-- how many of the first k spots are dark, and which -/
def drkN (n : Nat) (l : Nat → ProjectorD) (st : Int) : Nat → Nat
  | 0 => 0
  | k + 1 => drkN n l st k + if cntTo l (spX st k) (spY st k) n = 0 then 1 else 0
def drkI (n : Nat) (l : Nat → ProjectorD) (st : Int) : Nat → Nat → Nat
  | 0, _ => 0
  | k + 1, j => if cntTo l (spX st k) (spY st k) n = 0 ∧ j = drkN n l st k then k else drkI n l st k j
section
variable {n : Nat} {l : Nat → ProjectorD} {st : Int}
theorem drkN_yes {k : Nat} (h : cntTo l (spX st k) (spY st k) n = 0) : drkN n l st (k + 1) = drkN n l st k + 1 := by rw [drkN, if_pos h]
theorem drkN_no {k : Nat} (h : ¬ cntTo l (spX st k) (spY st k) n = 0) : drkN n l st (k + 1) = drkN n l st k := by rw [drkN, if_neg h, Nat.add_zero]
theorem drkI_no {k : Nat} (h : ¬ cntTo l (spX st k) (spY st k) n = 0) : drkI n l st (k + 1) = drkI n l st k := by funext j; rw [drkI, if_neg (fun h2 => h h2.1)]
theorem drkI_old {k j : Nat} (hj : j < drkN n l st k) : drkI n l st (k + 1) j = drkI n l st k j := by rw [drkI, if_neg (fun h2 => by omega)]
theorem drkI_new {k : Nat} (h : cntTo l (spX st k) (spY st k) n = 0) : drkI n l st (k + 1) (drkN n l st k) = k := by rw [drkI, if_pos ⟨h, rfl⟩]
theorem drkN_le (n : Nat) (l : Nat → ProjectorD) (st : Int) : ∀ k, drkN n l st k ≤ k
  | 0 => Nat.le_refl _
  | k + 1 => by
    have := drkN_le n l st k
    unfold drkN
    split <;> omega
theorem drkI_lt : ∀ k j, j < drkN n l st k → drkI n l st k j < k
  | 0, j, h => absurd h (by simp [drkN])
  | k + 1, j, h => by
    by_cases z : cntTo l (spX st k) (spY st k) n = 0
    · rw [drkN_yes z] at h
      by_cases e : j = drkN n l st k
      · rw [e, drkI_new z]; omega
      · rw [drkI_old (by omega)]
        have := drkI_lt k j (by omega)
        omega
    · rw [drkN_no z] at h
      rw [drkI_no z]
      have := drkI_lt k j h
      omega
theorem drkI_mono : ∀ k j, j < drkN n l st k → ∀ i, i < j → drkI n l st k i < drkI n l st k j
  | 0, j, h => absurd h (by simp [drkN])
  | k + 1, j, h => fun i hi => by
    by_cases z : cntTo l (spX st k) (spY st k) n = 0
    · rw [drkN_yes z] at h
      by_cases e : j = drkN n l st k
      · subst e
        rw [drkI_new z, drkI_old hi]
        exact drkI_lt k i hi
      · rw [drkI_old (by omega), drkI_old (by omega)]
        exact drkI_mono k j (by omega) i hi
    · rw [drkN_no z] at h
      rw [drkI_no z]
      exact drkI_mono k j h i hi
end
noncomputable def mDarkSpotsN (n : Nat) (l : Nat → ProjectorD) (st : Int) : Nat := if projsB n l = true ∧ inB st 10000 90000 = true then drkN n l st (nSp st) else 0
def mDarkSpotsX (n : Nat) (l : Nat → ProjectorD) (st : Int) : Nat → Int := fun j => spX st (drkI n l st (nSp st) j)
def mDarkSpotsY (n : Nat) (l : Nat → ProjectorD) (st : Int) : Nat → Int := fun j => spY st (drkI n l st (nSp st) j)
section
variable {n : Nat} {l : Nat → ProjectorD} {st : Int}
theorem mDk_no (q : projsB n l = false) : mDarkSpotsN n l st = 0 := by simp [mDarkSpotsN, q]
theorem mDk_out (q : inB st 10000 90000 = false) : mDarkSpotsN n l st = 0 := by simp [mDarkSpotsN, q]
theorem mDk_in (q : projsB n l = true) (q' : inB st 10000 90000 = true) : mDarkSpotsN n l st = drkN n l st (nSp st) := by simp [mDarkSpotsN, q, q']
theorem mDarkSpots_len (n : Nat) (l : Nat → ProjectorD) (st : Int) : mDarkSpotsN n l st ≤ 360 := by
  unfold mDarkSpotsN
  split
  · rename_i h
    have h1 := drkN_le n l st (nSp st)
    have h2 := nSp_le (inB_iff.1 h.2).1
    omega
  · omega
end
/-- a slice of pairs of the call's own, and a code -/
def RetP (w w' : World) (n : Nat) (x y : Nat → Int) (code : Int) (e : Ending) : Prop :=
  ∃ A c, e = .returned (.tuple #[.slice A n c, .int .i64 code]) ∧ Pairs w' w.heap.size (.slice A n c) n x y ∧ (A = none → c = 0)
theorem retP_none {w w' : World} {n : Nat} {x y : Nat → Int} {code code' : Int} (hn : n = 0) (hc : code = code') : RetP w w' n x y code (.returned (.tuple #[.slice none 0 0, .int .i64 code'])) := by
  subst hn hc
  exact ⟨none, 0, rfl, Pairs.nil _ _ _ _, fun _ => rfl⟩
theorem retP_of {w w' : World} {n m : Nat} {x y : Nat → Int} {code code' : Int} {v : Value} (hn : n = m) (hc : code = code') (hp : Pairs w' w.heap.size v m x y) : RetP w w' n x y code (.returned (.tuple #[v, .int .i64 code'])) := by
  subst hn hc
  obtain ⟨g, hr, hg⟩ := hp
  obtain ⟨A, c, rfl, _, _, hz⟩ := hr.own
  exact ⟨A, c, rfl, ⟨g, hr, hg⟩, hz⟩
theorem cnt_ne {a : Int} (h : ¬ a = 0) : (a == 0) = false := by simpa using h
theorem cnt_eq {a : Int} (h : a = 0) : (a == 0) = true := by simpa using h
set_option maxRecDepth 100000 in
set_option maxHeartbeats 4000000 in
theorem implDarkSpots_any (A : Option Addr) (n c : Nat) (l : Nat → ProjectorD) (st : Int) (w : World) (hn : n ≤ 1048576) (hs : Sl w A (n * 5) (ProjectorC l)) (hg : ∀ k, k < n → ProjectorOk (l k)) (_hst : -9223372036854775808 ≤ st ∧ st ≤ 9223372036854775807) (hT : Tab w) :
    Calls Tryd.prog 24 #[.slice A n c, .int .i64 st] w fun e w' => RetP w w' (mDarkSpotsN n l st) (mDarkSpotsX n l st) (mDarkSpotsY n l st) (mAsk n l st) e ∧ Below w.heap.size w w' := by
  have HT := Lib.hid hT
  clear hT
  rcases ask_split n l st with ⟨q, E⟩ | ⟨q, q', E⟩ | ⟨q, q', E⟩
  · have EE := Lib.hid (And.intro (mDk_no (st := st) q) E)
    clear E
    go_enter Tryd.func24, Tryd.ntmps24
    go_wp2_with fail
    refine (validProjectors_any _ _ _ l _ hn hs hg).mono ?_
    rintro e w1 ⟨rfl, hb1⟩
    go_wp2_with fail
    go_ret2
    exact ⟨retP_none EE.out.1 EE.out.2, hb1⟩
  · have EE := Lib.hid (And.intro (mDk_out (n := n) (l := l) q') E)
    clear E
    go_enter Tryd.func24, Tryd.ntmps24
    go_wp2_with fail
    refine (validProjectors_any _ _ _ l _ hn hs hg).mono ?_
    rintro e w1 ⟨rfl, hb1⟩
    go_wp2_with fail
    refine (spotsOf_bad _ _ q').mono ?_
    rintro e w1 ⟨rfl, rfl⟩
    go_wp2_with fail
    go_ret2
    exact ⟨retP_none EE.out.1 EE.out.2, hb1⟩
  have EE := Lib.hid (And.intro (mDk_in q q') E)
  obtain ⟨st1, st2⟩ := inB_iff.1 q'
  have np := nSp_pos (st := st) (by omega)
  have nl := nSp_le st1
  have OK := Lib.hid (projs_all q)
  obtain ⟨i0, hi, hz0, hz1, hz2⟩ := info_parts Tryd.infoPair
  clear E
  go_enter Tryd.func24, Tryd.ntmps24
  go_wp2_with fail
  refine (validProjectors_any _ _ _ l _ hn hs hg).mono ?_
  rintro e w1 ⟨rfl, hb1⟩
  go_wp2_with fail
  clear q q'
  refine (spotsOf_any _ _ st1 st2).mono ?_
  rintro e w3 ⟨⟨v, rfl, g, hp⟩, hb3⟩
  replace hp : PairsG w3 w1.heap.size v (nSp st) (spX st) (spY st) g := hp
  obtain ⟨A2, c2, rfl, _, _, _⟩ := hp.readG
  have HB3 := hb1.trans (hb3.mono hb1.size)
  have s1 := hb1.size
  have s3 := hb3.size
  go_wp2_with fail
  obtain ⟨wo, rfl⟩ : ∃ wo : World, wo = w3 := ⟨_, rfl⟩
  go_loopw [8, 24, 10] (fun v i _ wr => ∃ k : Nat, k ≤ nSp st ∧ i = .int .i64 (k : Int) ∧ Row wr wo.heap.size 24 1 v (drkN n l st k) (pickV g (drkI n l st k)) ∧ Below wo.heap.size wo wr) (fun _ i _ _ => nSp st - (intOf i).toNat)
  case atStart => exact ⟨0, Nat.zero_le _, rfl, Row.nil _ _ _ _ _, Below.refl _ _⟩
  case round =>
    obtain ⟨k, hk, rfl, hrow, hbi⟩ := hrel
    have hp2 := hp.below hbi
    have HBI := HB3.trans (hbi.mono HB3.size)
    have dle := drkN_le n l st k
    have sr := hbi.size
    by_cases hlt : k < nSp st
    · obtain ⟨bb, off, rfl, hbb, hcc⟩ := hp2.pr.1 (by omega)
      have PA := Lib.hid (hp2.pr.2 k hlt)
      have c0 := hcc k hlt
      have SI := Lib.hid (sp_i64 (st := st) (by omega) hlt)
      have hs2 := hs.below HBI
      have TT := Lib.hid (HT.out.below HBI)
      clear hcc
      have HY := Lib.hid (And.intro (drkN_yes (n := n) (l := l) (st := st) (k := k)) (And.intro (fun h => drkI_new (n := n) (l := l) (st := st) (k := k) h) (fun j (hj : j < drkN n l st k) => drkI_old (n := n) (l := l) (st := st) hj)))
      have HN := Lib.hid (And.intro (drkN_no (n := n) (l := l) (st := st) (k := k)) (drkI_no (n := n) (l := l) (st := st) (k := k)))
      obtain ⟨X, hX⟩ : ∃ X, cntTo l (spX st k) (spY st k) n = X := ⟨_, rfl⟩
      by_cases z : X = 0
      · have zb := cnt_eq z
        have E := Lib.hid (HY.out.1 (hX.trans z))
        have E2 := Lib.hid (HY.out.2.1 (hX.trans z))
        have HXX := Lib.hid hX
        clear hX z
        go_wp2_with fail
        refine (reaching_any _ n _ l _ _ _ _ OK.out.1 hs2 OK.out.2 PA.out SI.out.1 SI.out.2 TT.out).mono ?_
        rintro e w5 ⟨rfl, hb5⟩
        rw [HXX.out]
        have hrow5 := hrow.below hb5
        have hb6 := hbi.trans (hb5.mono hbi.size)
        have s5 := hb5.size
        have hcong : Row w5 wo.heap.size 24 1 _ (drkN n l st k) (pickV g (drkI n l st (k + 1))) := hrow5.congr (fun j hj => by unfold pickV; rw [HY.out.2.2 j (by omega)])
        have HONE := Lib.hid (show pickV g (drkI n l st (k + 1)) (drkN n l st k * 1 + 0) = .slice (some ⟨g k, 0, none⟩) 2 2 by simp only [pickV, Nat.mul_one, Nat.add_zero]; rw [E2.out])
        go_wp2_with (at_builtin; refine wpList_append_at rfl _ _ 44 rfl wo.heap.size 24 i0 _ 1 24 Tryd.underlying44 hi hz0 hz1 hz2 rfl (by decide) _ (drkN n l st k) (pickV g (drkI n l st (k + 1))) rfl (hcong.alloc _) w5.heap.size 1 rfl (fun j hj => by obtain rfl : j = 0 := (by omega); rw [HONE.out]; exact (Blk.new _ _ _).cell 0) (fun j hj => by obtain rfl : j = 0 := (by omega); rw [HONE.out]; rfl) (by omega) (by omega) (by simp; omega) ?_)
        intro g6 c6 w6 hrow6 hg6 _ _
        have hb7 := Row.after (hb6.alloc (by omega) _) (Nat.le_refl _) (by simp; omega) (hcong.alloc _) hg6 hrow6
        clear hg6
        go_wp2_with fail
        go_roundw
        case rel => exact ⟨k + 1, by omega, by go_num, by rw [E.out]; exact hrow6, hb7⟩
        case measure => simp [intOf]; omega
      · have zb := cnt_ne z
        have E := Lib.hid (HN.out.1 (fun h => z (hX.symm.trans h)))
        have E2 := Lib.hid (HN.out.2 (fun h => z (hX.symm.trans h)))
        have HXX := Lib.hid hX
        clear hX z
        go_wp2_with fail
        refine (reaching_any _ n _ l _ _ _ _ OK.out.1 hs2 OK.out.2 PA.out SI.out.1 SI.out.2 TT.out).mono ?_
        rintro e w5 ⟨rfl, hb5⟩
        rw [HXX.out]
        have hrow5 := hrow.below hb5
        have hb6 := hbi.trans (hb5.mono hbi.size)
        go_wp2_with fail
        go_roundw
        case rel => exact ⟨k + 1, by omega, by go_num, by rw [E.out, E2.out]; exact hrow5, hb6⟩
        case measure => simp [intOf]; omega
    · obtain rfl : k = nSp st := by omega
      have hP := hp2.pick (lo := w.heap.size) hrow (fun j hj => drkI_lt _ j hj) (fun j hj i hij => drkI_mono _ j hj i hij) (by omega) (by omega)
      go_wp2_with fail
      go_ret2
      exact ⟨retP_of EE.out.1 EE.out.2 hP, HBI⟩
end Go.Proofs.YthjllledhcfnhaaDoor
