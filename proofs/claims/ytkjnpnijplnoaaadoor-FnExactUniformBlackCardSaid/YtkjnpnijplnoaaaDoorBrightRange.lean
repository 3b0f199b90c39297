/- BrightnessRange. Conditions: the slice reads as projectors; the variable sines holds its table. -/
import Derived.Test.YtkjnpnijplnoaaaDoorBrightAt
import Derived.Test.YtkjnpnijplnoaaaDoorMinMax
namespace Go.Ks
/-- the least and the greatest of the first k numbers that are not negative; -1 if there is none -/
def loTo (f : Nat → Int) : Nat → Int
  | 0 => -1
  | k + 1 => if 0 ≤ f k ∧ (loTo f k < 0 ∨ f k < loTo f k) then f k else loTo f k
def hiTo (f : Nat → Int) : Nat → Int
  | 0 => -1
  | k + 1 => max (hiTo f k) (f k)
theorem lo_yes {f : Nat → Int} {k : Nat} (h : 0 ≤ f k ∧ (loTo f k < 0 ∨ f k < loTo f k)) : loTo f (k + 1) = f k := by rw [loTo, if_pos h]
theorem lo_no {f : Nat → Int} {k : Nat} (h : ¬ (0 ≤ f k ∧ (loTo f k < 0 ∨ f k < loTo f k))) : loTo f (k + 1) = loTo f k := by rw [loTo, if_neg h]
theorem lohi {f : Nat → Int} : ∀ k, (∀ j, j < k → -1 ≤ f j ∧ f j ≤ 10000000) → (hiTo f k = -1 ∧ loTo f k = -1) ∨ (0 ≤ loTo f k ∧ loTo f k ≤ hiTo f k ∧ hiTo f k ≤ 10000000)
  | 0, _ => .inl ⟨rfl, rfl⟩
  | k + 1, h => by
    have ih := lohi k (fun j hj => h j (by omega))
    have hk := h k (by omega)
    unfold loTo hiTo
    split <;> omega
end Go.Ks
namespace Go.Proofs.YtkjnpnijplnoaaaDoor
open Go.RowKit Go.Lib Go.Ks
theorem ret_tup3' {a a' b b' c c' : Int} (h : a = a') (h' : b = b') (h'' : c = c') : Ending.returned (.tuple #[.int .i64 a, .int .i64 b, .int .i64 c]) = .returned (.tuple #[.int .i64 a', .int .i64 b', .int .i64 c']) := by rw [h, h', h'']
theorem results_t3 {fn : Func} {t u v : Tmp} (h : fn.results = #[.tmp t, .tmp u, .tmp v]) (tmps : Array Value) (P : Program) (w : World) :
    (results fn tmps).run P w = .ok (.tuple #[tmps.getD t undef, tmps.getD u undef, tmps.getD v undef]) w := by
  simp [results, h]
def spB (n : Nat) (l : Nat → ProjectorD) (st : Int) (k : Nat) : Int := brightB n l (spX st k) (spY st k)
theorem spB_bd {n : Nat} {l : Nat → ProjectorD} {st : Int} (hn : n ≤ 6) (hp : ∀ k, k < n → projB (l k) = true) (k : Nat) : -1 ≤ spB n l st k ∧ spB n l st k ≤ 10000000 := by
  unfold spB brightB
  split
  · omega
  · rename_i z
    have := bright_bd (az := spX st k) (alt := spY st k) hn (fun k hk => (proj_dir (hp k hk)).2.2.1.1) (fun k hk => (proj_dir (hp k hk)).2.2.2) z
    omega
def rgL (n : Nat) (l : Nat → ProjectorD) (st : Int) : Int := if hiTo (spB n l st) (nSp st) < 0 then 0 else loTo (spB n l st) (nSp st)
def rgH (n : Nat) (l : Nat → ProjectorD) (st : Int) : Int := if hiTo (spB n l st) (nSp st) < 0 then 0 else hiTo (spB n l st) (nSp st)
def rgC (n : Nat) (l : Nat → ProjectorD) (st : Int) : Int := if hiTo (spB n l st) (nSp st) < 0 then 3 else 0
noncomputable def mRgL (n : Nat) (l : Nat → ProjectorD) (st : Int) : Int := if projsB n l = true ∧ inB st 10000 90000 = true then rgL n l st else 0
noncomputable def mRgH (n : Nat) (l : Nat → ProjectorD) (st : Int) : Int := if projsB n l = true ∧ inB st 10000 90000 = true then rgH n l st else 0
noncomputable def mRgC (n : Nat) (l : Nat → ProjectorD) (st : Int) : Int := if projsB n l = true then (if inB st 10000 90000 = true then rgC n l st else 2) else 1
section
variable {n : Nat} {l : Nat → ProjectorD} {st : Int}
theorem mRg_no (q : projsB n l = false) : mRgL n l st = 0 ∧ mRgH n l st = 0 ∧ mRgC n l st = 1 := by simp [mRgL, mRgH, mRgC, q]
theorem mRg_out (q : projsB n l = true) (q' : inB st 10000 90000 = false) : mRgL n l st = 0 ∧ mRgH n l st = 0 ∧ mRgC n l st = 2 := by simp [mRgL, mRgH, mRgC, q, q']
theorem mRg_in (q : projsB n l = true) (q' : inB st 10000 90000 = true) : mRgL n l st = rgL n l st ∧ mRgH n l st = rgH n l st ∧ mRgC n l st = rgC n l st := by simp [mRgL, mRgH, mRgC, q, q']
end
set_option maxRecDepth 100000 in
set_option maxHeartbeats 4000000 in
theorem specBrightnessRange_any (A : Option Addr) (n c : Nat) (l : Nat → ProjectorD) (st : Int) (w : World) (hn : n ≤ 1048576) (hs : Sl w A (n * 5) (ProjectorC l)) (hg : ∀ k, k < n → ProjectorOk (l k)) (_hst : -9223372036854775808 ≤ st ∧ st ≤ 9223372036854775807) :
    Calls Tryd.prog 44 #[.slice A n c, .int .i64 st] w fun e w' => e = .returned (.tuple #[.int .i64 (mRgL n l st), .int .i64 (mRgH n l st), .int .i64 (mRgC n l st)]) ∧ Below w.heap.size w w' := by
  rcases ask_split n l st with ⟨q, E⟩ | ⟨q, q', E⟩ | ⟨q, q', E⟩
  · have EE := Lib.hid (mRg_no (st := st) q)
    go_enter Tryd.func44, Tryd.ntmps44
    go_wp2_with fail
    refine (l10Ask_any _ _ _ l _ _ hn hs hg).mono ?_
    rintro e w1 ⟨rfl, hb1⟩
    rw [E]
    go_wp2_with fail
    (try simp only [Exit.inBlock, Exit.then])
    refine bodyPost_ret (results_t3 rfl _ _ _) rfl ?_
    exact ⟨ret_tup3' EE.out.1.symm EE.out.2.1.symm EE.out.2.2.symm, hb1⟩
  · have EE := Lib.hid (mRg_out q q')
    go_enter Tryd.func44, Tryd.ntmps44
    go_wp2_with fail
    refine (l10Ask_any _ _ _ l _ _ hn hs hg).mono ?_
    rintro e w1 ⟨rfl, hb1⟩
    rw [E]
    go_wp2_with fail
    (try simp only [Exit.inBlock, Exit.then])
    refine bodyPost_ret (results_t3 rfl _ _ _) rfl ?_
    exact ⟨ret_tup3' EE.out.1.symm EE.out.2.1.symm EE.out.2.2.symm, hb1⟩
  have EE := Lib.hid (mRg_in q q')
  obtain ⟨st1, st2⟩ := inB_iff.1 q'
  have np := nSp_pos (st := st) (by omega)
  have nl := nSp_le st1
  have OK := Lib.hid (projs_all q)
  have HBD := Lib.hid (fun k => spB_bd (n := n) (l := l) (st := st) OK.out.1 OK.out.2 k)
  go_enter Tryd.func44, Tryd.ntmps44
  go_wp2_with fail
  refine (l10Ask_any _ _ _ l _ _ hn hs hg).mono ?_
  rintro e w1 ⟨rfl, hb1⟩
  rw [E]
  clear E q q'
  go_wp2_with fail
  refine (l10Spots_any _ _ st1 st2).mono ?_
  rintro e w3 ⟨⟨v, rfl, hp⟩, hb3⟩
  obtain ⟨A2, c2, g, rfl, hnc, hpr⟩ := hp.read
  clear hp
  have HB3 := hb1.trans (hb3.mono hb1.size)
  go_wp2_with fail
  obtain ⟨wo, rfl⟩ : ∃ wo : World, wo = w3 := ⟨_, rfl⟩
  go_loopw [8, 9, 11] (fun a b i wr => ∃ k : Nat, k ≤ nSp st ∧ a = .int .i64 (loTo (spB n l st) k) ∧ b = .int .i64 (hiTo (spB n l st) k) ∧ i = .int .i64 (k : Int) ∧ Below wo.heap.size wo wr) (fun _ _ i _ => nSp st - (intOf i).toNat)
  case atStart => exact ⟨0, Nat.zero_le _, rfl, rfl, rfl, Below.refl _ _⟩
  case round =>
    obtain ⟨k, hk, rfl, rfl, rfl, hbi⟩ := hrel
    have LH := lohi (f := spB n l st) k (fun j _ => HBD.out j)
    have hpr2 := hpr.below hbi
    have HBI := HB3.trans (hbi.mono HB3.size)
    by_cases hlt : k < nSp st
    · obtain ⟨bb, off, rfl, hbb, hcc⟩ := hpr2.1 (by omega)
      obtain ⟨pg, p0, p1⟩ := hpr2.2 k hlt
      have c0 := hcc k hlt
      have SI := Lib.hid (sp_i64 (st := st) (by omega) hlt)
      have hs2 := Lib.hid (hs.below HBI)
      obtain ⟨x0, x1⟩ := HBD.out k
      obtain ⟨X, hX⟩ : ∃ X, spB n l st k = X := ⟨_, rfl⟩
      have LY := lo_yes (f := spB n l st) (k := k)
      have LN := lo_no (f := spB n l st) (k := k)
      have HH : hiTo (spB n l st) (k + 1) = max (hiTo (spB n l st) k) X := by rw [← hX]; rfl
      have XX : brightB n l (spX st k) (spY st k) = X := hX
      rw [hX] at x0 x1 LY LN
      obtain ⟨L, hL⟩ : ∃ L, loTo (spB n l st) k = L := ⟨_, rfl⟩
      rw [hL] at LY LN LH ⊢
      have HHH := Lib.hid HH
      have HXX := Lib.hid XX
      clear hcc hX HH XX hL
      by_cases a1 : 0 ≤ X
      rotate_left
      · have E := Lib.hid (LN (fun h => a1 h.1))
        clear LY LN
        go_wp2_with fail
        refine wp_region_ext (by kernel_rfl) (by kernel_rfl) ?_
        repeat (go_big_quiet_step ((first | (go_at_call 58; exact quiet_ext (l04Direction_any _ _ SI.out.1 SI.out.2 _)) | (go_at_call 68; exact quiet_ext (l10Bright_any _ n _ l (spX st k) (spY st k) _ OK.out.1 (hs2.out.below (ExtW.below _)) OK.out.2)))))
        refine wpQuiet_nil ?_
        intro e1
        have hbj := hbi.trans (e1.below.mono hbi.size)
        rw [HXX.out]
        go_wp2_with fail
        refine (l00Max_eq _ _ _).mono ?_
        rintro e w7 ⟨rfl, rfl⟩
        go_wp2_with fail
        go_roundw
        case rel => exact ⟨k + 1, by omega, ret_num E.out.symm, ret_num HHH.out.symm, by go_num, hbj⟩
        case measure => simp [intOf]; omega
      by_cases a2 : L < 0
      · have E := Lib.hid (LY ⟨a1, .inl a2⟩)
        clear LY LN
        go_wp2_with fail
        refine wp_region_ext (by kernel_rfl) (by kernel_rfl) ?_
        repeat (go_big_quiet_step ((first | (go_at_call 58; exact quiet_ext (l04Direction_any _ _ SI.out.1 SI.out.2 _)) | (go_at_call 68; exact quiet_ext (l10Bright_any _ n _ l (spX st k) (spY st k) _ OK.out.1 (hs2.out.below (ExtW.below _)) OK.out.2)))))
        refine wpQuiet_nil ?_
        intro e1
        have hbj := hbi.trans (e1.below.mono hbi.size)
        rw [HXX.out]
        go_wp2_with fail
        refine (l00Max_eq _ _ _).mono ?_
        rintro e w7 ⟨rfl, rfl⟩
        go_wp2_with fail
        go_roundw
        case rel => exact ⟨k + 1, by omega, ret_num E.out.symm, ret_num HHH.out.symm, by go_num, hbj⟩
        case measure => simp [intOf]; omega
      by_cases a3 : X < L
      · have E := Lib.hid (LY ⟨a1, .inr a3⟩)
        clear LY LN
        go_wp2_with fail
        refine wp_region_ext (by kernel_rfl) (by kernel_rfl) ?_
        repeat (go_big_quiet_step ((first | (go_at_call 58; exact quiet_ext (l04Direction_any _ _ SI.out.1 SI.out.2 _)) | (go_at_call 68; exact quiet_ext (l10Bright_any _ n _ l (spX st k) (spY st k) _ OK.out.1 (hs2.out.below (ExtW.below _)) OK.out.2)))))
        refine wpQuiet_nil ?_
        intro e1
        have hbj := hbi.trans (e1.below.mono hbi.size)
        rw [HXX.out]
        go_wp2_with fail
        refine (l00Max_eq _ _ _).mono ?_
        rintro e w7 ⟨rfl, rfl⟩
        go_wp2_with fail
        go_roundw
        case rel => exact ⟨k + 1, by omega, ret_num E.out.symm, ret_num HHH.out.symm, by go_num, hbj⟩
        case measure => simp [intOf]; omega
      · have E := Lib.hid (LN (fun h => h.2.elim a2 a3))
        clear LY LN
        go_wp2_with fail
        refine wp_region_ext (by kernel_rfl) (by kernel_rfl) ?_
        repeat (go_big_quiet_step ((first | (go_at_call 58; exact quiet_ext (l04Direction_any _ _ SI.out.1 SI.out.2 _)) | (go_at_call 68; exact quiet_ext (l10Bright_any _ n _ l (spX st k) (spY st k) _ OK.out.1 (hs2.out.below (ExtW.below _)) OK.out.2)))))
        refine wpQuiet_nil ?_
        intro e1
        have hbj := hbi.trans (e1.below.mono hbi.size)
        rw [HXX.out]
        go_wp2_with fail
        refine (l00Max_eq _ _ _).mono ?_
        rintro e w7 ⟨rfl, rfl⟩
        go_wp2_with fail
        go_roundw
        case rel => exact ⟨k + 1, by omega, ret_num E.out.symm, ret_num HHH.out.symm, by go_num, hbj⟩
        case measure => simp [intOf]; omega
    · obtain rfl : k = nSp st := by omega
      by_cases z : hiTo (spB n l st) (nSp st) < 0
      · have EX := Lib.hid (And.intro (show rgL n l st = 0 from if_pos z) (And.intro (show rgH n l st = 0 from if_pos z) (show rgC n l st = 3 from if_pos z)))
        go_wp2_with fail
        (try simp only [Exit.inBlock, Exit.then])
        refine bodyPost_ret (results_t3 rfl _ _ _) rfl ?_
        exact ⟨ret_tup3' (by rw [EE.out.1, EX.out.1]) (by rw [EE.out.2.1, EX.out.2.1]) (by rw [EE.out.2.2, EX.out.2.2]), HBI⟩
      · have EX := Lib.hid (And.intro (show rgL n l st = loTo (spB n l st) (nSp st) from if_neg z) (And.intro (show rgH n l st = hiTo (spB n l st) (nSp st) from if_neg z) (show rgC n l st = 0 from if_neg z)))
        go_wp2_with fail
        (try simp only [Exit.inBlock, Exit.then])
        refine bodyPost_ret (results_t3 rfl _ _ _) rfl ?_
        exact ⟨ret_tup3' (by rw [EE.out.1, EX.out.1]) (by rw [EE.out.2.1, EX.out.2.1]) (by rw [EE.out.2.2, EX.out.2.2]), HBI⟩
set_option maxRecDepth 100000 in
set_option maxHeartbeats 8000000 in
theorem implBrightnessRange_any (A : Option Addr) (n c : Nat) (l : Nat → ProjectorD) (st : Int) (w : World) (hn : n ≤ 1048576) (hs : Sl w A (n * 5) (ProjectorC l)) (hg : ∀ k, k < n → ProjectorOk (l k)) (_hst : -9223372036854775808 ≤ st ∧ st ≤ 9223372036854775807) (hT : Tab w) :
    Calls Tryd.prog 45 #[.slice A n c, .int .i64 st] w fun e w' => e = .returned (.tuple #[.int .i64 (mRgL n l st), .int .i64 (mRgH n l st), .int .i64 (mRgC n l st)]) ∧ Below w.heap.size w w' := by
  have HT := Lib.hid hT
  clear hT
  rcases ask_split n l st with ⟨q, _⟩ | ⟨q, q', _⟩ | ⟨q, q', _⟩
  · have EE := Lib.hid (mRg_no (st := st) q)
    go_enter Tryd.func45, Tryd.ntmps45
    go_wp2_with fail
    refine (validProjectors_any _ _ _ l _ hn hs hg).mono ?_
    rintro e w1 ⟨rfl, hb1⟩
    go_wp2_with fail
    (try simp only [Exit.inBlock, Exit.then])
    refine bodyPost_ret (results_t3 rfl _ _ _) rfl ?_
    exact ⟨ret_tup3' EE.out.1.symm EE.out.2.1.symm EE.out.2.2.symm, hb1⟩
  · have EE := Lib.hid (mRg_out q q')
    go_enter Tryd.func45, Tryd.ntmps45
    go_wp2_with fail
    refine (validProjectors_any _ _ _ l _ hn hs hg).mono ?_
    rintro e w1 ⟨rfl, hb1⟩
    go_wp2_with fail
    refine (spotsOf_bad _ _ q').mono ?_
    rintro e w1 ⟨rfl, rfl⟩
    go_wp2_with fail
    (try simp only [Exit.inBlock, Exit.then])
    refine bodyPost_ret (results_t3 rfl _ _ _) rfl ?_
    exact ⟨ret_tup3' EE.out.1.symm EE.out.2.1.symm EE.out.2.2.symm, hb1⟩
  have EE := Lib.hid (mRg_in q q')
  obtain ⟨st1, st2⟩ := inB_iff.1 q'
  have np := nSp_pos (st := st) (by omega)
  have nl := nSp_le st1
  have OK := Lib.hid (projs_all q)
  have HBD := Lib.hid (fun k => spB_bd (n := n) (l := l) (st := st) OK.out.1 OK.out.2 k)
  go_enter Tryd.func45, Tryd.ntmps45
  go_wp2_with fail
  refine (validProjectors_any _ _ _ l _ hn hs hg).mono ?_
  rintro e w1 ⟨rfl, hb1⟩
  go_wp2_with fail
  clear q q'
  refine (spotsOf_any _ _ st1 st2).mono ?_
  rintro e w3 ⟨⟨v, rfl, hp⟩, hb3⟩
  obtain ⟨A2, c2, g, rfl, hnc, hpr⟩ := hp.read
  clear hp
  have HB3 := hb1.trans (hb3.mono hb1.size)
  go_wp2_with fail
  obtain ⟨wo, rfl⟩ : ∃ wo : World, wo = w3 := ⟨_, rfl⟩
  go_loopw [9, 10, 11, 29, 13] (fun v a b i _ wr => ∃ k : Nat, k ≤ nSp st ∧ i = .int .i64 (k : Int) ∧ ((v = .bool false ∧ a = .int .i64 0 ∧ b = .int .i64 0 ∧ hiTo (spB n l st) k = -1 ∧ loTo (spB n l st) k = -1) ∨ (v = .bool true ∧ a = .int .i64 (loTo (spB n l st) k) ∧ b = .int .i64 (hiTo (spB n l st) k) ∧ 0 ≤ loTo (spB n l st) k ∧ loTo (spB n l st) k ≤ hiTo (spB n l st) k)) ∧ Below wo.heap.size wo wr) (fun _ _ _ i _ _ => nSp st - (intOf i).toNat)
  case atStart => exact ⟨0, Nat.zero_le _, rfl, .inl ⟨rfl, rfl, rfl, rfl, rfl⟩, Below.refl _ _⟩
  case round =>
    obtain ⟨k, hk, rfl, hst, hbi⟩ := hrel
    have hpr2 := hpr.below hbi
    have HBI := HB3.trans (hbi.mono HB3.size)
    by_cases hlt : k < nSp st
    · obtain ⟨bb, off, rfl, hbb, hcc⟩ := hpr2.1 (by omega)
      obtain ⟨pg, p0, p1⟩ := hpr2.2 k hlt
      have c0 := hcc k hlt
      have SI := Lib.hid (sp_i64 (st := st) (by omega) hlt)
      have hs2 := Lib.hid (hs.below HBI)
      have TT := Lib.hid (HT.out.below HBI)
      obtain ⟨x0, x1⟩ := HBD.out k
      have LY := lo_yes (f := spB n l st) (k := k)
      have LN := lo_no (f := spB n l st) (k := k)
      have HH : hiTo (spB n l st) (k + 1) = max (hiTo (spB n l st) k) (spB n l st k) := rfl
      clear hcc
      by_cases z : rawS l (spX st k) (spY st k) n = 0
      · have XB : spB n l st k = -1 := if_pos z
        have EL : loTo (spB n l st) (k + 1) = loTo (spB n l st) k := LN (fun h => by omega)
        have EX := Lib.hid (And.intro (show brightX n l (spX st k) (spY st k) = 0 from if_pos z) (show brightC n l (spX st k) (spY st k) = 3 from if_pos z))
        rcases hst with ⟨rfl, rfl, rfl, h1, h2⟩ | ⟨rfl, rfl, rfl, h1, h2⟩
        · have EH : hiTo (spB n l st) (k + 1) = -1 := by omega
          have HE := Lib.hid (And.intro EH (EL.trans h2))
          clear LY LN HH XB EL EH h1 h2 z x0 x1
          go_wp2_with fail
          refine wp_region_ext (by kernel_rfl) (by kernel_rfl) ?_
          repeat (go_big_quiet_step ((first | (go_at_call 69; exact quiet_ext (brightnessAt_any _ n _ l (spX st k) (spY st k) _ OK.out.1 (hs2.out.below (ExtW.below _)) OK.out.2 SI.out.1 SI.out.2 (TT.out.below (ExtW.below _)))))))
          refine wpQuiet_nil ?_
          intro e1
          have hbj := hbi.trans (e1.below.mono hbi.size)
          rw [EX.out.1, EX.out.2]
          go_wp2_with fail
          go_roundw
          case rel => exact ⟨k + 1, by omega, by go_num, .inl ⟨rfl, rfl, rfl, HE.out.1, HE.out.2⟩, hbj⟩
          case measure => simp [intOf]; omega
        · have EH : hiTo (spB n l st) (k + 1) = hiTo (spB n l st) k := by omega
          have HE := Lib.hid (And.intro EH EL)
          have H12 := Lib.hid (And.intro h1 h2)
          clear LY LN HH XB EL EH h1 h2 z x0 x1
          go_wp2_with fail
          refine wp_region_ext (by kernel_rfl) (by kernel_rfl) ?_
          repeat (go_big_quiet_step ((first | (go_at_call 69; exact quiet_ext (brightnessAt_any _ n _ l (spX st k) (spY st k) _ OK.out.1 (hs2.out.below (ExtW.below _)) OK.out.2 SI.out.1 SI.out.2 (TT.out.below (ExtW.below _)))))))
          refine wpQuiet_nil ?_
          intro e1
          have hbj := hbi.trans (e1.below.mono hbi.size)
          rw [EX.out.1, EX.out.2]
          go_wp2_with fail
          go_roundw
          case rel => exact ⟨k + 1, by omega, by go_num, .inr ⟨rfl, ret_num HE.out.2.symm, ret_num HE.out.1.symm, by rw [HE.out.2]; exact H12.out.1, by rw [HE.out.1, HE.out.2]; exact H12.out.2⟩, hbj⟩
          case measure => simp [intOf]; omega
      · have XB : spB n l st k = brightV n l (spX st k) (spY st k) := if_neg z
        have EX := Lib.hid (And.intro (show brightX n l (spX st k) (spY st k) = brightV n l (spX st k) (spY st k) from if_neg z) (show brightC n l (spX st k) (spY st k) = 0 from if_neg z))
        have X0 := bright_bd (az := spX st k) (alt := spY st k) OK.out.1 (fun k hk => (proj_dir (OK.out.2 k hk)).2.2.1.1) (fun k hk => (proj_dir (OK.out.2 k hk)).2.2.2) z
        rw [XB] at LY LN HH x0 x1
        obtain ⟨X, hX⟩ : ∃ X, brightV n l (spX st k) (spY st k) = X := ⟨_, rfl⟩
        rw [hX] at LY LN HH x0 x1 X0 EX
        clear XB z hX
        obtain ⟨X1, X2⟩ := X0
        rcases hst with ⟨rfl, rfl, rfl, h1, h2⟩ | ⟨rfl, rfl, rfl, h1, h2⟩
        · have EL : loTo (spB n l st) (k + 1) = X := LY ⟨X1, .inl (by omega)⟩
          have EH : hiTo (spB n l st) (k + 1) = X := by omega
          have HE := Lib.hid (And.intro EH EL)
          clear LY LN HH EL EH h1 h2
          go_wp2_with fail
          refine wp_region_ext (by kernel_rfl) (by kernel_rfl) ?_
          repeat (go_big_quiet_step ((first | (go_at_call 69; exact quiet_ext (brightnessAt_any _ n _ l (spX st k) (spY st k) _ OK.out.1 (hs2.out.below (ExtW.below _)) OK.out.2 SI.out.1 SI.out.2 (TT.out.below (ExtW.below _)))))))
          refine wpQuiet_nil ?_
          intro e1
          have hbj := hbi.trans (e1.below.mono hbi.size)
          rw [EX.out.1, EX.out.2]
          go_wp2_with fail
          go_roundw
          case rel => exact ⟨k + 1, by omega, by go_num, .inr ⟨rfl, ret_num HE.out.2.symm, ret_num HE.out.1.symm, by rw [HE.out.2]; exact X1, by rw [HE.out.1, HE.out.2]; exact Int.le_refl _⟩, hbj⟩
          case measure => simp [intOf]; omega
        · obtain ⟨L, hL⟩ : ∃ L, loTo (spB n l st) k = L := ⟨_, rfl⟩
          obtain ⟨H, hH⟩ : ∃ H, hiTo (spB n l st) k = H := ⟨_, rfl⟩
          rw [hL] at LY LN h1 h2 ⊢
          rw [hH] at HH h2 ⊢
          clear hL hH
          have EL : loTo (spB n l st) (k + 1) = min L X := by
            by_cases a : X < L
            · rw [LY ⟨X1, .inr a⟩]; omega
            · rw [LN (fun h => h.2.elim (fun _ => by omega) a)]; omega
          have HE := Lib.hid (And.intro HH EL)
          have b1 : 0 ≤ min L X := by omega
          have b2 : min L X ≤ max H X := by omega
          have HBB := Lib.hid (And.intro b1 b2)
          clear LY LN HH EL b1 b2
          go_wp2_with fail
          refine wp_region_ext (by kernel_rfl) (by kernel_rfl) ?_
          repeat (go_big_quiet_step ((first | (go_at_call 69; exact quiet_ext (brightnessAt_any _ n _ l (spX st k) (spY st k) _ OK.out.1 (hs2.out.below (ExtW.below _)) OK.out.2 SI.out.1 SI.out.2 (TT.out.below (ExtW.below _)))))))
          refine wpQuiet_nil ?_
          intro e1
          have hbj := hbi.trans (e1.below.mono hbi.size)
          rw [EX.out.1, EX.out.2]
          go_wp2_with fail
          go_roundw
          case rel => exact ⟨k + 1, by omega, by go_num, .inr ⟨rfl, ret_num (by rw [HE.out.2]; omega), ret_num (by rw [HE.out.1]; omega), by rw [HE.out.2]; exact HBB.out.1, by rw [HE.out.1, HE.out.2]; exact HBB.out.2⟩, hbj⟩
          case measure => simp [intOf]; omega
    · obtain rfl : k = nSp st := by omega
      rcases hst with ⟨rfl, rfl, rfl, h1, h2⟩ | ⟨rfl, rfl, rfl, h1, h2⟩
      · have z : hiTo (spB n l st) (nSp st) < 0 := by omega
        have EX := Lib.hid (And.intro (show rgL n l st = 0 from if_pos z) (And.intro (show rgH n l st = 0 from if_pos z) (show rgC n l st = 3 from if_pos z)))
        clear z h1 h2
        go_wp2_with fail
        (try simp only [Exit.inBlock, Exit.then])
        refine bodyPost_ret (results_t3 rfl _ _ _) rfl ?_
        exact ⟨ret_tup3' (by rw [EE.out.1, EX.out.1]) (by rw [EE.out.2.1, EX.out.2.1]) (by rw [EE.out.2.2, EX.out.2.2]), HBI⟩
      · have z : ¬ hiTo (spB n l st) (nSp st) < 0 := by omega
        have EX := Lib.hid (And.intro (show rgL n l st = loTo (spB n l st) (nSp st) from if_neg z) (And.intro (show rgH n l st = hiTo (spB n l st) (nSp st) from if_neg z) (show rgC n l st = 0 from if_neg z)))
        clear z h1 h2
        go_wp2_with fail
        (try simp only [Exit.inBlock, Exit.then])
        refine bodyPost_ret (results_t3 rfl _ _ _) rfl ?_
        exact ⟨ret_tup3' (by rw [EE.out.1, EX.out.1]) (by rw [EE.out.2.1, EX.out.2.1]) (by rw [EE.out.2.2, EX.out.2.2]), HBI⟩
end Go.Proofs.YtkjnpnijplnoaaaDoor
