/- The share of spots that are lit. Conditions: the slice reads as projectors; the variable sines holds its table. -/
import Derived.Test.YthjllledhcfnhaaDoorCount
namespace Go.Proofs.YthjllledhcfnhaaDoor
open Go.RowKit Go.Lib Go.Ks
/-- the first k spots that at least so many projectors reach -/
def hitTo (n : Nat) (l : Nat → ProjectorD) (st least : Int) : Nat → Int
  | 0 => 0
  | k + 1 => hitTo n l st least k + if least ≤ cntTo l (spX st k) (spY st k) n then 1 else 0
theorem hit_yes {n : Nat} {l : Nat → ProjectorD} {st least : Int} {k : Nat} (h : least ≤ cntTo l (spX st k) (spY st k) n) : hitTo n l st least (k + 1) = hitTo n l st least k + 1 := by rw [hitTo, if_pos h]
theorem hit_no {n : Nat} {l : Nat → ProjectorD} {st least : Int} {k : Nat} (h : ¬ least ≤ cntTo l (spX st k) (spY st k) n) : hitTo n l st least (k + 1) = hitTo n l st least k := by rw [hitTo, if_neg h, Int.add_zero]
theorem hit_bd (n : Nat) (l : Nat → ProjectorD) (st least : Int) : ∀ k, 0 ≤ hitTo n l st least k ∧ hitTo n l st least k ≤ (k : Int)
  | 0 => ⟨Int.le_refl _, Int.le_refl _⟩
  | k + 1 => by
    have ih := hit_bd n l st least k
    unfold hitTo
    split <;> omega
def shareV (n : Nat) (l : Nat → ProjectorD) (st least : Int) : Int := 1000 * hitTo n l st least (nSp st) / (nSp st : Int)
theorem shareV_bd {n : Nat} {l : Nat → ProjectorD} {st least : Int} (h : 0 < st) : 0 ≤ shareV n l st least ∧ shareV n l st least ≤ 1000 := by
  have hp := nSp_pos h
  obtain ⟨h0, h1⟩ := hit_bd n l st least (nSp st)
  refine ⟨Int.ediv_nonneg (by omega) (by omega), Int.ediv_le_of_le_mul (by omega) (by omega)⟩
noncomputable def mShareV (n : Nat) (l : Nat → ProjectorD) (st least : Int) : Int := if projsB n l = true ∧ inB st 10000 90000 = true then shareV n l st least else 0
noncomputable def mAsk (n : Nat) (l : Nat → ProjectorD) (st : Int) : Int := if projsB n l = true then (if inB st 10000 90000 = true then 0 else 2) else 1
section
variable {n : Nat} {l : Nat → ProjectorD} {st least : Int}
theorem mAsk_no (q : projsB n l = false) : mAsk n l st = 1 := by simp [mAsk, q]
theorem mAsk_out (q : projsB n l = true) (q' : inB st 10000 90000 = false) : mAsk n l st = 2 := by simp [mAsk, q, q']
theorem mAsk_in (q : projsB n l = true) (q' : inB st 10000 90000 = true) : mAsk n l st = 0 := by simp [mAsk, q, q']
theorem mShare_no (q : projsB n l = false) : mShareV n l st least = 0 := by simp [mShareV, q]
theorem mShare_out (q' : inB st 10000 90000 = false) : mShareV n l st least = 0 := by simp [mShareV, q']
theorem mShare_in (q : projsB n l = true) (q' : inB st 10000 90000 = true) : mShareV n l st least = shareV n l st least := by simp [mShareV, q, q']
end
theorem ask_split (n : Nat) (l : Nat → ProjectorD) (st : Int) : (projsB n l = false ∧ mAsk n l st = 1) ∨ (projsB n l = true ∧ inB st 10000 90000 = false ∧ mAsk n l st = 2) ∨ (projsB n l = true ∧ inB st 10000 90000 = true ∧ mAsk n l st = 0) := by
  cases q : projsB n l
  · exact .inl ⟨rfl, mAsk_no q⟩
  · cases q' : inB st 10000 90000
    · exact .inr (.inl ⟨rfl, rfl, mAsk_out q q'⟩)
    · exact .inr (.inr ⟨rfl, rfl, mAsk_in q q'⟩)
theorem projs_all {n : Nat} {l : Nat → ProjectorD} (h : projsB n l = true) : n ≤ 6 ∧ ∀ k, k < n → projB (l k) = true := ⟨(projsB_of h).1, fun k hk => ((projsB_of h).2 k hk).1⟩
theorem sp_i64 {st : Int} (h : 0 < st) {k : Nat} (hk : k < nSp st) : I64 (spX st k) ∧ I64 (spY st k) := by
  obtain ⟨⟨_, _⟩, _, _⟩ := sp_up h hk
  exact ⟨⟨by omega, by omega⟩, by omega, by omega⟩
set_option maxHeartbeats 1000000 in
theorem l10Ask_any (A : Option Addr) (n c : Nat) (l : Nat → ProjectorD) (st : Int) (w : World) (hn : n ≤ 1048576) (hs : Sl w A (n * 5) (ProjectorC l)) (hg : ∀ k, k < n → ProjectorOk (l k)) :
    Calls Tryd.prog 55 #[.slice A n c, .int .i64 st] w fun e w' => e = .returned (.int .i64 (mAsk n l st)) ∧ Below w.heap.size w w' := by
  rcases ask_split n l st with ⟨q, E⟩ | ⟨q, q', E⟩ | ⟨q, q', E⟩
  · have EE := Lib.hid E
    clear E
    go_enter Tryd.func55, Tryd.ntmps55
    go_wp2_with fail
    refine (l10Ok_any _ _ _ l _ hn hs hg).mono ?_
    rintro e w1 ⟨rfl, hb1⟩
    go_wp2_with fail
    go_ret
    exact ⟨ret_int EE.out.symm, hb1⟩
  · have EE := Lib.hid E
    clear E
    go_enter Tryd.func55, Tryd.ntmps55
    go_wp2_with fail
    refine (l10Ok_any _ _ _ l _ hn hs hg).mono ?_
    rintro e w1 ⟨rfl, hb1⟩
    go_wp2_with fail
    refine (l10Step_eq _ _).mono ?_
    rintro e w1 ⟨rfl, rfl⟩
    go_wp2_with fail
    go_ret
    exact ⟨ret_int EE.out.symm, hb1⟩
  · have EE := Lib.hid E
    clear E
    go_enter Tryd.func55, Tryd.ntmps55
    go_wp2_with fail
    refine (l10Ok_any _ _ _ l _ hn hs hg).mono ?_
    rintro e w1 ⟨rfl, hb1⟩
    go_wp2_with fail
    refine (l10Step_eq _ _).mono ?_
    rintro e w1 ⟨rfl, rfl⟩
    go_wp2_with fail
    go_ret
    exact ⟨ret_int EE.out.symm, hb1⟩
set_option maxHeartbeats 2000000 in
theorem shareOfSpots_any (A : Option Addr) (n c : Nat) (l : Nat → ProjectorD) (st least : Int) (w : World) (hn : n ≤ 1048576) (hs : Sl w A (n * 5) (ProjectorC l)) (hg : ∀ k, k < n → ProjectorOk (l k)) (hT : Tab w) :
    Calls Tryd.prog 82 #[.slice A n c, .int .i64 st, .int .i64 least] w fun e w' => e = .returned (.tuple #[.int .i64 (mShareV n l st least), .int .i64 (mAsk n l st)]) ∧ Below w.heap.size w w' := by
  rcases ask_split n l st with ⟨q, E⟩ | ⟨q, q', E⟩ | ⟨q, q', E⟩
  · have EE := Lib.hid (And.intro (mShare_no (st := st) (least := least) q) E)
    clear E
    go_enter Tryd.func82, Tryd.ntmps82
    go_wp2_with fail
    refine (validProjectors_any _ _ _ l _ hn hs hg).mono ?_
    rintro e w1 ⟨rfl, hb1⟩
    go_wp2_with fail
    go_ret2
    exact ⟨ret_tup EE.out.1.symm EE.out.2.symm, hb1⟩
  · have EE := Lib.hid (And.intro (mShare_out (n := n) (l := l) (least := least) q') E)
    clear E
    go_enter Tryd.func82, Tryd.ntmps82
    go_wp2_with fail
    refine (validProjectors_any _ _ _ l _ hn hs hg).mono ?_
    rintro e w1 ⟨rfl, hb1⟩
    go_wp2_with fail
    refine (spotsOf_bad _ _ q').mono ?_
    rintro e w1 ⟨rfl, rfl⟩
    go_wp2_with fail
    go_ret2
    exact ⟨ret_tup EE.out.1.symm EE.out.2.symm, hb1⟩
  have E := Lib.hid (And.intro (mShare_in (least := least) q q') E)
  obtain ⟨st1, st2⟩ := inB_iff.1 q'
  have np := nSp_pos (st := st) (by omega)
  have nl := nSp_le st1
  have OK := Lib.hid (projs_all q)
  have HT := Lib.hid hT
  clear hT
  go_enter Tryd.func82, Tryd.ntmps82
  go_wp2_with fail
  refine (validProjectors_any _ _ _ l _ hn hs hg).mono ?_
  rintro e w1 ⟨rfl, hb1⟩
  go_wp2_with fail
  clear q q'
  refine (spotsOf_any _ _ st1 st2).mono ?_
  rintro e w3 ⟨⟨v, rfl, hp⟩, hb3⟩
  obtain ⟨A2, c2, g, rfl, hnc, hpr⟩ := hp.read
  clear hp
  have hb4 := hb1.trans (hb3.mono hb1.size)
  clear hb3
  go_wp2_with fail
  obtain ⟨wo, rfl⟩ : ∃ wo : World, wo = w3 := ⟨_, rfl⟩
  go_loopw [10, 26, 12] (fun s i sp wr => ∃ k : Nat, k ≤ nSp st ∧ s = .int .i64 (hitTo n l st least k) ∧ i = .int .i64 (k : Int) ∧ Below wo.heap.size wo wr) (fun _ i _ _ => nSp st - (intOf i).toNat)
  case atStart => exact ⟨0, Nat.zero_le _, rfl, rfl, Below.refl _ _⟩
  case round =>
    obtain ⟨k, hk, rfl, rfl, hbi⟩ := hrel
    obtain ⟨sb1, sb2⟩ := hit_bd n l st least k
    have hpr2 := hpr.below hbi
    by_cases hlt : k < nSp st
    · obtain ⟨bb, off, rfl, hbb, hcc⟩ := hpr2.1 (by omega)
      have PA := Lib.hid (hpr2.2 k hlt)
      have c0 := hcc k hlt
      have SI := Lib.hid (sp_i64 (st := st) (by omega) hlt)
      have hs2 := (hs.below hb4).below hbi
      have TT := Lib.hid ((HT.out.below hb4).below hbi)
      clear hcc
      have HY1 := Lib.hid (hit_yes (n := n) (l := l) (st := st) (least := least) (k := k))
      have HN1 := Lib.hid (hit_no (n := n) (l := l) (st := st) (least := least) (k := k))
      by_cases q : least ≤ cntTo l (spX st k) (spY st k) n
      · have E := Lib.hid (HY1.out (by omega))
        go_wp2_with fail
        refine (reaching_any _ n _ l _ _ _ _ OK.out.1 hs2 OK.out.2 PA.out SI.out.1 SI.out.2 TT.out).mono ?_
        rintro e w5 ⟨rfl, hb5⟩
        have hb6 := hbi.trans (hb5.mono hbi.size)
        go_wp2_with fail
        go_roundw
        case rel => exact ⟨k + 1, by omega, ret_num E.out.symm, by go_num, hb6⟩
        case measure => simp [intOf]; omega
      · have E := Lib.hid (HN1.out (by omega))
        go_wp2_with fail
        refine (reaching_any _ n _ l _ _ _ _ OK.out.1 hs2 OK.out.2 PA.out SI.out.1 SI.out.2 TT.out).mono ?_
        rintro e w5 ⟨rfl, hb5⟩
        have hb6 := hbi.trans (hb5.mono hbi.size)
        go_wp2_with fail
        go_roundw
        case rel => exact ⟨k + 1, by omega, ret_num E.out.symm, by go_num, hb6⟩
        case measure => simp [intOf]; omega
    · obtain rfl : k = nSp st := by omega
      have hbl := hb4.trans (hbi.mono hb4.size)
      go_wp2_with fail
      go_ret2
      exact ⟨ret_tup (by rw [E.out.1]; rfl) E.out.2.symm, hbl⟩
theorem implCoverageShare_any (A : Option Addr) (n c : Nat) (l : Nat → ProjectorD) (st : Int) (w : World) (hn : n ≤ 1048576) (hs : Sl w A (n * 5) (ProjectorC l)) (hg : ∀ k, k < n → ProjectorOk (l k)) (_hst : -9223372036854775808 ≤ st ∧ st ≤ 9223372036854775807) (hT : Tab w) :
    Calls Tryd.prog 25 #[.slice A n c, .int .i64 st] w fun e w' => e = .returned (.tuple #[.int .i64 (mShareV n l st 1), .int .i64 (mAsk n l st)]) ∧ Below w.heap.size w w' := by
  go_enter Tryd.func25, Tryd.ntmps25
  go_wp2_with fail
  refine (shareOfSpots_any _ _ _ l _ _ _ hn hs hg hT).mono ?_
  rintro e w1 ⟨rfl, hb1⟩
  go_wp2_with fail
  go_ret2
  exact ⟨rfl, hb1⟩
theorem implOverlapShare_any (A : Option Addr) (n c : Nat) (l : Nat → ProjectorD) (st : Int) (w : World) (hn : n ≤ 1048576) (hs : Sl w A (n * 5) (ProjectorC l)) (hg : ∀ k, k < n → ProjectorOk (l k)) (_hst : -9223372036854775808 ≤ st ∧ st ≤ 9223372036854775807) (hT : Tab w) :
    Calls Tryd.prog 26 #[.slice A n c, .int .i64 st] w fun e w' => e = .returned (.tuple #[.int .i64 (mShareV n l st 2), .int .i64 (mAsk n l st)]) ∧ Below w.heap.size w w' := by
  go_enter Tryd.func26, Tryd.ntmps26
  go_wp2_with fail
  refine (shareOfSpots_any _ _ _ l _ _ _ hn hs hg hT).mono ?_
  rintro e w1 ⟨rfl, hb1⟩
  go_wp2_with fail
  go_ret2
  exact ⟨rfl, hb1⟩
end Go.Proofs.YthjllledhcfnhaaDoor
