/- The program's search for the fewest projectors. Conditions: the slice reads as projectors; the variable sines holds its table. -/
import Derived.Test.YthjllledhcfnhaaDoorFewLaw
namespace Go.Proofs.YthjllledhcfnhaaDoor
open Go.RowKit Go.Lib Go.Ks
/-- the spots that some projector lights -/
def nedX (n : Nat) (l : Nat → ProjectorD) (st : Int) : Nat → Int := fun j => spX st (nedI n l st (nSp st) j)
def nedY (n : Nat) (l : Nat → ProjectorD) (st : Int) : Nat → Int := fun j => spY st (nedI n l st (nSp st) j)
def fewL (n : Nat) (l : Nat → ProjectorD) (st : Int) (ch : List Nat) : Bool := litAll l ch (nedX n l st) (nedY n l st) (nedN n l st (nSp st))
noncomputable def mFewO (n : Nat) (l : Nat → ProjectorD) (st bud : Int) : Option (List Nat) := if projsB n l = true ∧ inB st 10000 90000 = true ∧ inB bud 1 20000 = true then srch n (fewL n l st) bud.toNat [] else none
noncomputable def mFewC (n : Nat) (l : Nat → ProjectorD) (st bud : Int) : Int := if projsB n l = true then (if inB st 10000 90000 = true ∧ inB bud 1 20000 = true then (if (srch n (fewL n l st) bud.toNat []).isSome = true then 0 else 5) else 2) else 1
theorem below_byG {w w1 w' : World} {s : Nat} (h : Below w.heap.size w w1) (hg : w1.grownBy w' (some s)) (hs : w.heap.size ≤ s) : Below w.heap.size w w' :=
  h.grown hg h.size (fun k hk => by injection hk with hk; omega)
theorem zeroA (n : Nat) : madeCells #[Value.int IntKind.i64 0] n = arr n (fun _ => .int .i64 0) := by
  rw [made_arr]
  apply arr_ext
  intro j _
  show #[Value.int IntKind.i64 0][j % 1]! = _
  rw [Nat.mod_one j]
  rfl
theorem bcase (b : Bool) : b = false ∨ b = true := by cases b <;> simp
section
variable {n : Nat} {l : Nat → ProjectorD} {st bud : Int}
theorem few_no (q : projsB n l = false) : mFewO n l st bud = none ∧ mFewC n l st bud = 1 := by simp [mFewO, mFewC, q]
theorem few_out (q : projsB n l = true) (h : ¬ (inB st 10000 90000 = true ∧ inB bud 1 20000 = true)) : mFewO n l st bud = none ∧ mFewC n l st bud = 2 := by
  unfold mFewO mFewC
  rw [if_neg (fun z => h z.2), if_pos q, if_neg h]
  exact ⟨rfl, rfl⟩
theorem few_in (q : projsB n l = true) (h : inB st 10000 90000 = true ∧ inB bud 1 20000 = true) : mFewO n l st bud = srch n (fewL n l st) bud.toNat [] ∧ mFewC n l st bud = if (srch n (fewL n l st) bud.toNat []).isSome = true then 0 else 5 := by
  unfold mFewO mFewC
  rw [if_pos ⟨q, h⟩, if_pos q, if_pos h]
  exact ⟨rfl, rfl⟩
end
/-- what a search for the fewest leaves -/
def RetF (w w' : World) (o : Option (List Nat)) (code : Int) (e : Ending) : Prop :=
  (o = none ∧ e = .returned (.tuple #[.slice none 0 0, .int .i64 code])) ∨ ∃ ch B c, o = some ch ∧ e = .returned (.tuple #[.slice (some ⟨B, 0, none⟩) ch.length c, .int .i64 code]) ∧ w.heap.size ≤ B ∧ Blk w' B 2 (arr ch.length (IntC (chF ch)))
theorem retF_no {w w' : World} {o : Option (List Nat)} {code k : Int} (ho : o = none) (hc : code = k) : RetF w w' o code (.returned (.tuple #[.slice none 0 0, .int .i64 k])) := by
  subst hc
  exact .inl ⟨ho, rfl⟩
theorem retF_yes {w w' : World} {o : Option (List Nat)} {code : Int} {ch : List Nat} {B c m : Nat} (ho : o = some ch) (hc : code = 0) (hm : ch.length = m) (hB : w.heap.size ≤ B) (hb : Blk w' B 2 (arr m (IntC (chF ch)))) : RetF w w' o code (.returned (.tuple #[.slice (some ⟨B, 0, none⟩) m c, .int .i64 0])) := by
  subst hc hm
  exact .inr ⟨ch, B, c, ho, rfl, hB, hb⟩
set_option maxRecDepth 100000 in
set_option maxHeartbeats 16000000 in
theorem implFew_any (A : Option Addr) (n c : Nat) (l : Nat → ProjectorD) (st bud : Int) (w : World) (hn : n ≤ 1048576) (hs : Sl w A (n * 5) (ProjectorC l)) (hg : ∀ k, k < n → ProjectorOk (l k)) (_hst : I64 st) (_hb : I64 bud) (hT : Tab w) :
    Calls Tryd.prog 11 #[.slice A n c, .int .i64 st, .int .i64 bud] w fun e w' => RetF w w' (mFewO n l st bud) (mFewC n l st bud) e ∧ Below w.heap.size w w' := by
  have HT := Lib.hid hT
  clear hT
  rcases bcase (projsB n l) with q | q
  · have EE := Lib.hid (few_no (st := st) (bud := bud) q)
    go_enter Tryd.func11, Tryd.ntmps11
    go_wp2_with fail
    refine (validProjectors_any _ _ _ l _ hn hs hg).mono ?_
    rintro e w1 ⟨rfl, hb1⟩
    rw [q]
    go_wp2_with fail
    go_ret2
    exact ⟨retF_no EE.out.1 EE.out.2, hb1⟩
  rcases bcase (inB st 10000 90000) with q' | q'
  · have EE := Lib.hid (few_out (st := st) (bud := bud) q (fun h => by rw [q'] at h; exact absurd h.1 (by decide)))
    go_enter Tryd.func11, Tryd.ntmps11
    go_wp2_with fail
    refine (validProjectors_any _ _ _ l _ hn hs hg).mono ?_
    rintro e w1 ⟨rfl, hb1⟩
    rw [q]
    go_wp2_with fail
    refine (spotsOf_bad _ _ q').mono ?_
    rintro e w1 ⟨rfl, rfl⟩
    go_wp2_with fail
    go_ret2
    exact ⟨retF_no EE.out.1 EE.out.2, hb1⟩
  obtain ⟨st1, st2⟩ := inB_iff.1 q'
  rcases bcase (inB bud 1 20000) with q2 | q2
  · have EE := Lib.hid (few_out (st := st) (bud := bud) q (fun h => by rw [q2] at h; exact absurd h.2 (by decide)))
    go_enter Tryd.func11, Tryd.ntmps11
    go_wp2_with fail
    refine (validProjectors_any _ _ _ l _ hn hs hg).mono ?_
    rintro e w1 ⟨rfl, hb1⟩
    rw [q]
    go_wp2_with fail
    clear q q'
    refine (spotsOf_any _ _ st1 st2).mono ?_
    rintro e w3 ⟨⟨v, rfl, g, hp⟩, hb3⟩
    have HB3 := hb1.trans (hb3.mono hb1.size)
    go_wp2_with fail
    refine (within_eq _ _ _ _).mono ?_
    rintro e w4 ⟨rfl, rfl⟩
    rw [q2]
    go_wp2_with fail
    go_ret2
    exact ⟨retF_no EE.out.1 EE.out.2, HB3⟩
  obtain ⟨bu1, bu2⟩ := inB_iff.1 q2
  have EE := Lib.hid (few_in (st := st) (bud := bud) q ⟨q', q2⟩)
  have np := nSp_pos (st := st) (by omega)
  have nl := nSp_le st1
  have OK := Lib.hid (projs_all q)
  obtain ⟨i0, hi, hz0, hz1, hz2⟩ := info_parts Tryd.infoPair
  go_enter Tryd.func11, Tryd.ntmps11
  go_wp2_with fail
  refine (validProjectors_any _ _ _ l _ hn hs hg).mono ?_
  rintro e w1 ⟨rfl, hb1⟩
  rw [q]
  go_wp2_with fail
  clear q q'
  refine (spotsOf_any _ _ st1 st2).mono ?_
  rintro e w3 ⟨⟨v, rfl, g, hp⟩, hb3⟩
  replace hp : PairsG w3 w1.heap.size v (nSp st) (spX st) (spY st) g := hp
  obtain ⟨A2, c2, rfl, _, _, _⟩ := hp.readG
  have HB3 := hb1.trans (hb3.mono hb1.size)
  have s1 := hb1.size
  have s3 := hb3.size
  go_wp2_with fail
  refine (within_eq _ _ _ _).mono ?_
  rintro e w4 ⟨rfl, rfl⟩
  rw [q2]
  clear q2
  go_wp2_with fail
  obtain ⟨wo, rfl⟩ : ∃ wo : World, wo = w3 := ⟨_, rfl⟩
  go_loopw [10, 33, 12] (fun v i _ wr => ∃ k : Nat, k ≤ nSp st ∧ i = .int .i64 (k : Int) ∧ Row wr wo.heap.size 24 1 v (nedN n l st k) (pickV g (nedI n l st k)) ∧ Below wo.heap.size wo wr) (fun _ i _ _ => nSp st - (intOf i).toNat)
  case atStart => exact ⟨0, Nat.zero_le _, rfl, Row.nil _ _ _ _ _, Below.refl _ _⟩
  case round =>
    obtain ⟨k, hk, rfl, hrow, hbi⟩ := hrel
    have hp2 := hp.below hbi
    have HBI := HB3.trans (hbi.mono HB3.size)
    have dle := nedN_le n l st k
    have sr := hbi.size
    by_cases hlt : k < nSp st
    · obtain ⟨bb, off, rfl, hbb, hcc⟩ := hp2.pr.1 (by omega)
      have PA := Lib.hid (hp2.pr.2 k hlt)
      have c0 := hcc k hlt
      have SI := Lib.hid (sp_i64 (st := st) (by omega) hlt)
      have hs2 := hs.below HBI
      have TT := Lib.hid (HT.out.below HBI)
      clear hcc
      have HY := Lib.hid (And.intro (nedN_yes (n := n) (l := l) (st := st) (k := k)) (And.intro (fun h => nedI_new (n := n) (l := l) (st := st) (k := k) h) (fun j (hj : j < nedN n l st k) => nedI_old (n := n) (l := l) (st := st) hj)))
      have HN := Lib.hid (And.intro (nedN_no (n := n) (l := l) (st := st) (k := k)) (nedI_no (n := n) (l := l) (st := st) (k := k)))
      obtain ⟨X, hX⟩ : ∃ X, cntTo l (spX st k) (spY st k) n = X := ⟨_, rfl⟩
      by_cases z : 0 < X
      · have E := Lib.hid (HY.out.1 (by rw [hX]; exact z))
        have E2 := Lib.hid (HY.out.2.1 (by rw [hX]; exact z))
        have HXX := Lib.hid hX
        clear hX
        go_wp2_with fail
        refine (reaching_any _ n _ l _ _ _ _ OK.out.1 hs2 OK.out.2 PA.out SI.out.1 SI.out.2 TT.out).mono ?_
        rintro e w5 ⟨rfl, hb5⟩
        rw [HXX.out]
        have hrow5 := hrow.below hb5
        have hb6 := hbi.trans (hb5.mono hbi.size)
        have s5 := hb5.size
        have hcong : Row w5 wo.heap.size 24 1 _ (nedN n l st k) (pickV g (nedI n l st (k + 1))) := hrow5.congr (fun j hj => by unfold pickV; rw [HY.out.2.2 j (by omega)])
        have HONE := Lib.hid (show pickV g (nedI n l st (k + 1)) (nedN n l st k * 1 + 0) = .slice (some ⟨g k, 0, none⟩) 2 2 by simp only [pickV, Nat.mul_one, Nat.add_zero]; rw [E2.out])
        go_wp2_with (at_builtin; refine wpList_append_at rfl _ _ 44 rfl wo.heap.size 24 i0 _ 1 24 Tryd.underlying44 hi hz0 hz1 hz2 rfl (by decide) _ (nedN n l st k) (pickV g (nedI n l st (k + 1))) rfl (hcong.alloc _) w5.heap.size 1 rfl (fun j hj => by obtain rfl : j = 0 := (by omega); rw [HONE.out]; exact (Blk.new _ _ _).cell 0) (fun j hj => by obtain rfl : j = 0 := (by omega); rw [HONE.out]; rfl) (by omega) (by omega) (by simp; omega) ?_)
        intro g6 c6 w6 hrow6 hg6 _ _
        have hb7 := Row.after (hb6.alloc (by omega) _) (Nat.le_refl _) (by simp; omega) (hcong.alloc _) hg6 hrow6
        clear hg6
        go_wp2_with fail
        go_roundw
        case rel => exact ⟨k + 1, by omega, by go_num, by rw [E.out]; exact hrow6, hb7⟩
        case measure => simp [intOf]; omega
      · have E := Lib.hid (HN.out.1 (by rw [hX]; exact z))
        have E2 := Lib.hid (HN.out.2 (by rw [hX]; exact z))
        have HXX := Lib.hid hX
        clear hX
        go_wp2_with fail
        refine (reaching_any _ n _ l _ _ _ _ OK.out.1 hs2 OK.out.2 PA.out SI.out.1 SI.out.2 TT.out).mono ?_
        rintro e w5 ⟨rfl, hb5⟩
        rw [HXX.out]
        have hrow5 := hrow.below hb5
        have hb6 := hbi.trans (hb5.mono hbi.size)
        go_wp2_with fail
        go_roundw
        case rel => exact ⟨k + 1, by omega, by go_num, by rw [E.out, E2.out]; exact hrow5, hb6⟩
        case measure => simp [intOf]; omega
    · obtain rfl : k = nSp st := by omega
      have hP := hp2.pick (lo := w.heap.size) hrow (fun j hj => nedI_lt _ j hj) (fun j hj i hij => nedI_mono _ j hj i hij) (by omega) (by omega)
      obtain ⟨A3, c3, g3, rfl, _, PR⟩ := hP.read
      have HPR := Lib.hid PR
      clear hP PR hrow
      have NL := Lib.hid (fun (ch : List Nat) (h : Rise n ch) (hl : ch.length = n) => full_lit (N := nedN n l st (nSp st)) (l := l) (x := nedX n l st) (y := nedY n l st) h hl (fun j hj => ned_lit _ j hj))
      have NX := Lib.hid (fun j (hj : j < nedN n l st (nSp st)) => sp_i64 (st := st) (by omega) (nedI_lt (n := n) (l := l) (st := st) (nSp st) j hj))
      have n6 := OK.out.1
      have n6' : (n : Int) ≤ 6 := by omega
      have NN : nedN n l st (nSp st) ≤ 360 := by omega
      obtain ⟨nn, hnn⟩ : ∃ q, nedN n l st (nSp st) = q := ⟨_, rfl⟩
      rw [hnn] at HPR NN NX NL
      have HNN := Lib.hid hnn
      have OO := Lib.hid (show ∀ ch, fewL n l st ch = litAll l ch (nedX n l st) (nedY n l st) nn from fun ch => by unfold fewL; rw [hnn])
      obtain ⟨L, hL⟩ : ∃ L, fewL n l st = L := ⟨_, rfl⟩
      rw [hL] at EE OO
      rw [hnn]
      clear hnn hL hp hp2 dle
      obtain ⟨b0, hb0⟩ := Int.eq_ofNat_of_zero_le (show 0 ≤ bud by omega)
      subst hb0
      rw [Int.toNat_natCast] at EE
      obtain ⟨j0, hj, hj0, hj1, hj2⟩ := info_parts Tryd.infoI64
      obtain ⟨wp, hwp⟩ : ∃ q : World, q = wr := ⟨_, rfl⟩
      subst hwp
      go_wp2_with fail
      go_loopw [2, 13, 14, 15] (fun bb mm _ _ wr => ∃ B m : Nat, B ≤ 20000 ∧ m ≤ n ∧ bb = .int .i64 (B : Int) ∧ mm = .int .i64 (m : Int) ∧ srch n L b0 [] = srch n L B (List.range m) ∧ Below wp.heap.size wp wr) (fun bb _ _ _ _ => (intOf bb).toNat)
      case atStart => exact ⟨b0, 0, by omega, Nat.zero_le _, rfl, rfl, rfl, Below.refl _ _⟩
      case round =>
        obtain ⟨B, m, hB, hm, rfl, rfl, hS, hbq⟩ := hrel
        have HS := Lib.hid hS
        clear hS
        have HBQ := HBI.trans (hbq.mono HBI.size)
        have hmk := fun W => run_make_rowN (P := Tryd.prog) 24 2 j0 _ Tryd.underlying24 hj hj0 .i64 .i64 m m (Nat.le_refl _) (by rw [hj2]; omega) (by omega) W
        rw [hj1] at hmk
        have hm' : (m : Int) ≤ 6 := by omega
        obtain ⟨wm, rfl⟩ : ∃ q : World, q = wr := ⟨_, rfl⟩
        go_wp2_with fail
        have hC : wp.heap.size ≤ wm.heap.size := hbq.size
        generalize hW : World.alloc wm _ = w5
        have k0 : Blk w5 wm.heap.size 2 (arr m (fun j => if j < 0 then .int .i64 (j : Int) else .int .i64 0)) := by
          have h := Blk.new wm 2 (madeCells #[Value.int IntKind.i64 0] m)
          rw [hW, zeroA] at h
          exact h.congr (fun j _ => by rw [if_neg (by omega)])
        have B5 : Below wp.heap.size wp w5 := by rw [← hW]; exact hbq.alloc hbq.size _
        obtain ⟨C, hCC⟩ : ∃ C, C = wm.heap.size := ⟨_, rfl⟩
        rw [← hCC] at k0 hC ⊢
        clear hW hCC hmk HBQ hbq
        go_loopw [52, 15] (fun i _ wr => ∃ k : Nat, k ≤ m ∧ i = .int .i64 (k : Int) ∧ Below wp.heap.size wp wr ∧ Blk wr C 2 (arr m (fun j => if j < k then .int .i64 (j : Int) else .int .i64 0))) (fun i _ _ => m - (intOf i).toNat)
        case atStart => exact ⟨0, Nat.zero_le _, rfl, B5, k0⟩
        case round =>
          obtain ⟨k, hk, rfl, hb6, hk6⟩ := hrel
          have gC := hk6.lt
          by_cases hlt : k < m
          · have hlt' : (k : Int) < (m : Int) := by omega
            have s0 : wr.cell? ⟨C, k, none⟩ = some (.int .i64 0) := by rw [hk6.cell, arr_get _ _ _ hlt, if_neg (by omega)]
            have f0 : wr.frozen? ⟨C, k, none⟩ = false := hk6.frozen k
            go_wp2_with fail
            go_roundw
            case rel =>
              refine ⟨k + 1, by omega, by go_num, hb6.setCell (by simp; omega) _, ?_⟩
              have h := hk6.set_ k (.int .i64 (k : Int))
              rw [arr_set] at h
              refine h.congr (fun j _ => ?_)
              by_cases e : j = k
              · subst e
                rw [if_pos rfl, if_pos (by omega)]
              · rw [if_neg e]
                by_cases e2 : j < k
                · rw [if_pos e2, if_pos (by omega)]
                · rw [if_neg e2, if_neg (by omega)]
            case measure => simp [intOf]; omega
          · obtain rfl : k = m := by omega
            have hch : Blk wr C 2 (arr k (IntC (chF (List.range k)))) := hk6.congr (fun j hj => by
              rw [if_pos hj]
              unfold IntC chF
              rw [List.getD_eq_getElem?_getD, List.getElem?_range hj]
              rfl)
            clear k0 B5 hk6
            go_wp2_with fail
            go_loopw [2] (fun bb wr => ∃ (Q : Nat) (ch : List Nat), Q ≤ B ∧ ch.length = k ∧ Rise n ch ∧ bb = .int .i64 (Q : Int) ∧ srch n L b0 [] = srch n L Q ch ∧ Below wp.heap.size wp wr ∧ Blk wr C 2 (arr k (IntC (chF ch)))) (fun bb _ => (intOf bb).toNat)
            case atStart => exact ⟨B, List.range k, Nat.le_refl _, by simp, rise_range hm, rfl, HS.out, hb6, hch⟩
            case round =>
              obtain ⟨Q, ch, hQ, hcl, hri, rfl, hS, hb7, hk7⟩ := hrel
              have HS7 := Lib.hid hS
              clear hS
              have HB8 := HBI.trans (hb7.mono HBI.size)
              rcases Nat.eq_zero_or_pos Q with hq0 | hq0
              · subst hq0
                have HN := Lib.hid (show srch n L b0 [] = none from HS7.out)
                go_wp2_with fail
                go_ret2
                exact ⟨retF_no (by rw [EE.out.1]; exact HN.out) (by rw [EE.out.2, HN.out]; rfl), HB8⟩
              · obtain ⟨R, rfl⟩ : ∃ q, Q = q + 1 := ⟨Q - 1, by omega⟩
                have T8 := Lib.hid (HT.out.below HB8)
                have P8 := Lib.hid (HPR.out.below hb7)
                have hs8 := hs.below HB8
                have CH := Lib.hid (fun q (hq : q < ch.length) => hri.2.1 q hq)
                have n6b : n ≤ 6 := by omega
                have HKS := Lib.hid (show Sl wr (some ⟨C, 0, none⟩) (ch.length * 1) (IntC (chF ch)) by rw [hcl, Nat.mul_one]; exact hk7.sl_arr (Nat.le_refl _))
                have LA := lightsAll_any A n c l (some ⟨C, 0, none⟩) k ch A3 nn c3 g3 (nedX n l st) (nedY n l st) wr OK.out.1 hs8 OK.out.2 (by omega) CH.out HKS.out NN P8.out NX.out T8.out
                rw [hcl, ← OO.out ch] at LA
                have LA := Lib.hid LA
                have g7 := hk7.lt
                have wq : IntKind.i64.wrap (((R + 1 : Nat) : Int) - 1) = (R : Int) := by rw [IntKind.wrap_i64]; omega
                have wq2 : ((R + 1 : Nat) : Int) - 1 = (R : Int) := by omega
                have hR : (R : Int) ≤ 20000 := by omega
                rcases bcase (L ch) with qL | qL
                · have HM := Lib.hid qL
                  clear qL
                  go_wp2_with fail
                  refine LA.out.mono ?_
                  rintro e w8 ⟨rfl, hb9⟩
                  rw [HM.out]
                  go_wp2_with fail
                  have hk9 := hk7.below hb9 g7
                  have hb10 := hb7.trans (hb9.mono hb7.size)
                  have NCH := nextChoice_any C k n ch w8 n6b (by omega) (fun q hq => by have := CH.out q hq; omega) (by rw [hcl]; exact hk9)
                  rw [hcl] at NCH
                  refine NCH.mono ?_
                  rintro e w10 (⟨hnx, rfl, hg⟩ | ⟨ch2, hnx, hl2, rfl, hg, hbk⟩)
                  · have hS2 := Lib.hid (HS7.out.trans (srch_more HM.out hnx))
                    have hkn : k < n := by
                      rcases Nat.lt_or_ge k n with h | h
                      · exact h
                      · have := NL.out ch hri (by omega)
                        rw [← OO.out ch, HM.out] at this
                        cases this
                    have hb11 := below_byG hb10 hg hC
                    clear NCH hnx
                    rw [hcl] at hS2
                    go_wp2_with fail
                    go_roundw
                    case rel => exact ⟨R, k + 1, by omega, by omega, by go_num, by go_num, hS2.out, hb11⟩
                    case measure => simp [intOf]; omega
                  · have hS2 := Lib.hid (HS7.out.trans (srch_next HM.out hnx))
                    have hr2 := Lib.hid (next_rise hri hnx)
                    have hb11 := below_byG hb10 hg hC
                    rw [hcl] at hbk
                    clear NCH hnx
                    go_wp2_with fail
                    go_roundw
                    case rel => exact ⟨R, ch2, by omega, by omega, hr2.out.1, by go_num, hS2.out, hb11, hbk⟩
                    case measure => simp [intOf]
                · have HH := Lib.hid (show srch n L b0 [] = some ch from HS7.out.trans (srch_hit qL))
                  have HM := Lib.hid qL
                  clear qL
                  go_wp2_with fail
                  refine LA.out.mono ?_
                  rintro e w8 ⟨rfl, hb9⟩
                  rw [HM.out]
                  go_wp2_with fail
                  go_ret2
                  exact ⟨retF_yes (by rw [EE.out.1]; exact HH.out) (by rw [EE.out.2, HH.out]; rfl) hcl (Nat.le_trans HBI.size hC) (hk7.below hb9 g7), HB8.trans (hb9.mono HB8.size)⟩
end Go.Proofs.YthjllledhcfnhaaDoor
