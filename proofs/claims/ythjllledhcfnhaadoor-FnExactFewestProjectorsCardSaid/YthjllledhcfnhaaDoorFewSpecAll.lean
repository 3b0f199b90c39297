/- FewestProjectors of the reference. Conditions: the slice reads as projectors. -/
import Derived.Test.YthjllledhcfnhaaDoorFewSay
import Derived.Test.YthjllledhcfnhaaDoorFewOwn
import Derived.Test.YthjllledhcfnhaaDoorMakeH
namespace Go.Ks
def boolG (u : Value) : Prop := ∃ b : Bool, u = .bool b
def boolCs (u : Value) : Array Value := #[u]
/-- the rows of the reach -/
def rowV (R : Nat → Nat) (N : Nat) (cR : Nat → Nat) : Nat → Value := fun j => .slice (some ⟨R j, 0, none⟩) N (cR j)
end Go.Ks
namespace Go.Proofs.YthjllledhcfnhaaDoor
open Go.RowKit Go.Lib Go.Ks
theorem Tryd.infoBool : (Tryd.prog.info? 4).map (fun i => (i.zero, i.size, i.bytes)) = some (some (.bool false), 1, 1) := by kernel_rfl
theorem Tryd.infoBools : (Tryd.prog.info? 93).map (fun i => (i.zero, i.size, i.bytes)) = some (some (.slice none 0 0), 1, 24) := by kernel_rfl
theorem makeBool : Go.Ks.Make.MakeRun Tryd.prog 93 4 boolG boolCs := by
  obtain ⟨i0, hi, hz0, hz1, hz2⟩ := info_parts Tryd.infoBool
  rintro w u ⟨x, rfl⟩
  simp [go_sem, Instr.buildSlice, Go.Ks.Make.sl1, boolCs]
/-- the search while it is set up -/
structure FewL (w4 : World) (s : Nat) (r v : Value) (bud : Int) (w : World) : Prop where
  g : w4.grownBy w (some s)
  x : Blk w s 95 #[r, v, .int .i64 0, .slice none 0 0, .int .i64 0, .int .i64 bud, .bool false]
section
variable {w4 w w2 : World} {s : Nat} {r v v2 : Value} {bud : Int} {e : TypeId} {size n : Nat} {f : Nat → Value}
theorem FewL.below (h : FewL w4 s r v bud w) (hb : Below w.heap.size w w2) : FewL w4 s r v bud w2 := ⟨only_then h.g hb, h.x.below hb h.x.lt⟩
theorem FewL.lit (h : FewL w4 s r v bud w) (hs : s < w4.heap.size) (hr : Row w w4.heap.size e size v n f) (hg : w.grownBy w2 v.ownBlock) (v2 : Value) : Blk w2 s 95 #[r, v, .int .i64 0, .slice none 0 0, .int .i64 0, .int .i64 bud, .bool false] ∧ FewL w4 s r v2 bud (w2.setCell ⟨s, 1, none⟩ v2) := by
  have g2 := only_row h.g hr (Nat.le_refl _) hg
  have x2 := blk_grown h.x hg (fun e => by have := Row.far hr s e; omega)
  exact ⟨x2, only_setCell g2 (.inl rfl) _, x2.set_ 1 _⟩
theorem FewL.reach (h : FewL w4 s r v bud w) (hs : s < w4.heap.size) (hr : Row w w4.heap.size e size r n f) (hg : w.grownBy w2 r.ownBlock) (r2 : Value) : Blk w2 s 95 #[r, v, .int .i64 0, .slice none 0 0, .int .i64 0, .int .i64 bud, .bool false] ∧ FewL w4 s r2 v bud (w2.setCell ⟨s, 0, none⟩ r2) := by
  have g2 := only_row h.g hr (Nat.le_refl _) hg
  have x2 := blk_grown h.x hg (fun e => by have := Row.far hr s e; omega)
  exact ⟨x2, only_setCell g2 (.inl rfl) _, x2.set_ 0 _⟩
theorem Row.at_s (h : Row w2 w4.heap.size e size v n f) (hs : s < w4.heap.size) (i : Nat) (u : Value) : Row (w2.setCell ⟨s, i, none⟩ u) w4.heap.size e size v n f :=
  h.only (only_setCell (World.grownBy.refl w2 (some s)) (p := ⟨s, i, none⟩) (.inl rfl) _) hs
end
/-- the rows that are made: each lies in a block of its own -/
def RowsB (w : World) (lo : Nat) (R : Nat → Nat) (N k : Nat) (row : Nat → Nat → Bool) : Prop :=
  ∀ j, j < k → lo ≤ R j ∧ ∃ (m : Nat) (h : Nat → Value), Blk w (R j) 4 (arr m h) ∧ N ≤ m ∧ ∀ i, i < N → h i = .bool (row j i)
section
variable {w w2 : World} {lo N k : Nat} {R : Nat → Nat} {row : Nat → Nat → Bool}
theorem RowsB.below (h : RowsB w lo R N k row) (hb : Below w.heap.size w w2) : RowsB w2 lo R N k row := fun j hj => by
  obtain ⟨a, m, g, hk, b, c⟩ := h j hj
  exact ⟨a, m, g, hk.below hb hk.lt, b, c⟩
theorem RowsB.grow {base size n : Nat} {v : Value} {e : TypeId} {f : Nat → Value} (h : RowsB w lo R N k row) (hr : Row w base e size v n f) (hg : w.grownBy w2 v.ownBlock) (he : e ≠ 4) : RowsB w2 lo R N k row := fun j hj => by
  obtain ⟨a, m, g, hk, b, c⟩ := h j hj
  exact ⟨a, m, g, hk.row hr hg he, b, c⟩
theorem RowsB.only {s : Nat} (h : RowsB w lo R N k row) (hg : w.grownBy w2 (some s)) (hs : s < lo) : RowsB w2 lo R N k row := fun j hj => by
  obtain ⟨a, m, g, hk, b, c⟩ := h j hj
  exact ⟨a, m, g, blk_grown hk hg (fun e => by injection e with e; omega), b, c⟩
theorem RowsB.more {B m : Nat} {g : Nat → Value} (h : RowsB w lo R N k row) (hB : lo ≤ B) (hk : Blk w B 4 (arr m g)) (hm : N ≤ m) (hg : ∀ i, i < N → g i = .bool (row k i)) : RowsB w lo (fun j => if j = k then B else R j) N (k + 1) row := fun j hj => by
  by_cases e : j = k
  · subst e
    simp only [if_true]
    exact ⟨hB, m, g, hk, hm, hg⟩
  · simp only [if_neg e]
    exact h j (by omega)
theorem own_rowsB {base : Nat} {A : Option Addr} {f : Nat → Bool} (h : Own w base 4 1 A N (BoolC f)) (hN : 0 < N) : ∃ B m g, A = some ⟨B, 0, none⟩ ∧ base ≤ B ∧ Blk w B 4 (arr m g) ∧ N ≤ m ∧ ∀ i, i < N → g i = .bool (f i) := by
  rcases h with ⟨_, h0⟩ | ⟨B, m, g, hA, hB, hk, hm, hf⟩
  · omega
  · exact ⟨B, m, g, hA, hB, hk, by omega, fun i hi => hf i (by omega)⟩
theorem RowsB.at_ (h : RowsB w lo R N k row) {A : Option Addr} {cR : Nat → Nat} (hs : Sl w A (k * 1) (rowV R N cR)) : RowsAt w A k N R cR row :=
  ⟨hs, fun j hj => by
    obtain ⟨_, m, g, hk, hm, hg⟩ := h j hj
    exact (hk.sl_arr (k := N * 1) (by omega)).congr (fun i hi => hg i (by omega))⟩
theorem few_keep {s base n cr BL : Nat} {AR : Option Addr} {cR : Nat → Nat} {lit : Nat → Bool} (hR : Row w base 93 1 (.slice AR n cr) n (rowV R N cR)) (hRB : RowsB w lo R N n row) (hLB : RowsB w lo (fun _ => BL) N 1 (fun _ => lit)) (hs : s < lo) (hs2 : s < base) :
    ∀ w2, w.grownBy w2 (some s) → RowsAt w2 AR n N R cR row ∧ Sl w2 (some ⟨BL, 0, none⟩) (N * 1) (BoolC lit) := fun w2 hg => by
  obtain ⟨A', c', e, _, ho, _⟩ := (hR.only hg hs2).own
  cases e
  obtain ⟨_, m, g, hk, hm, hgg⟩ := (hLB.only hg hs) 0 (by omega)
  exact ⟨(hRB.only hg hs).at_ ho.sl, (hk.sl_arr (k := N * 1) (by omega)).congr (fun i hi => hgg i (by omega))⟩
end
theorem retS_some {w w' : World} {n : Nat} {l : Nat → ProjectorD} {st bud code : Int} {ch : List Nat} {A : Option Addr} {c base : Nat} (h : mFewO n l st bud = some ch) (hc : code = 0) (hb : w.heap.size ≤ base) (ho : Own w' base 2 1 A ch.length (IntC (chF ch))) (hz : A = none → c = 0) :
    RetS w w' 2 1 (mFewestProjectorsN n l st bud) (IntC (mFewestProjectorsL n l st bud)) code (.returned (.tuple #[.slice A ch.length c, .int .i64 0])) := by
  subst hc
  unfold mFewestProjectorsN mFewestProjectorsL
  rw [h]
  exact ⟨A, c, rfl, ho.mono hb, hz⟩
set_option maxRecDepth 100000 in
set_option maxHeartbeats 16000000 in
theorem specFewestProjectors_any (A : Option Addr) (n c : Nat) (l : Nat → ProjectorD) (st bud : Int) (w : World) (hn : n ≤ 1048576) (hs : Sl w A (n * 5) (ProjectorC l)) (hg : ∀ k, k < n → ProjectorOk (l k)) (_hst : -9223372036854775808 ≤ st ∧ st ≤ 9223372036854775807) (_hb : -9223372036854775808 ≤ bud ∧ bud ≤ 9223372036854775807) :
    Calls Tryd.prog 9 #[.slice A n c, .int .i64 st, .int .i64 bud] w fun e w' => RetS w w' 2 1 (mFewestProjectorsN n l st bud) (IntC (mFewestProjectorsL n l st bud)) (mFewC n l st bud) e ∧ Below w.heap.size w w' := by
  rcases ask_split n l st with ⟨q, E⟩ | ⟨q, q', E⟩ | ⟨q, q', E⟩
  · have EE := Lib.hid (few_no (st := st) (bud := bud) q)
    go_enter Tryd.func9, Tryd.ntmps9
    go_wp2_with fail
    refine (l10Ask_any _ _ _ l _ _ hn hs hg).mono ?_
    rintro e w1 ⟨rfl, hb1⟩
    rw [E]
    go_wp2_with fail
    go_ret2
    exact ⟨retF_s (retF_no EE.out.1 EE.out.2), hb1⟩
  · have EE := Lib.hid (few_out (st := st) (bud := bud) q (fun h => by rw [q'] at h; exact absurd h.1 (by decide)))
    go_enter Tryd.func9, Tryd.ntmps9
    go_wp2_with fail
    refine (l10Ask_any _ _ _ l _ _ hn hs hg).mono ?_
    rintro e w1 ⟨rfl, hb1⟩
    rw [E]
    go_wp2_with fail
    go_ret2
    exact ⟨retF_s (retF_no EE.out.1 EE.out.2), hb1⟩
  rcases bcase (inB bud 1 20000) with q2 | q2
  · have EE := Lib.hid (few_out (st := st) (bud := bud) q (fun h => by rw [q2] at h; exact absurd h.2 (by decide)))
    go_enter Tryd.func9, Tryd.ntmps9
    go_wp2_with fail
    refine (l10Ask_any _ _ _ l _ _ hn hs hg).mono ?_
    rintro e w1 ⟨rfl, hb1⟩
    rw [E]
    go_wp2_with fail
    refine (l00In_eq _ _ _ _).mono ?_
    rintro e w2 ⟨rfl, rfl⟩
    rw [q2]
    go_wp2_with fail
    go_ret2
    exact ⟨retF_s (retF_no EE.out.1 EE.out.2), hb1⟩
  obtain ⟨bu1, bu2⟩ := inB_iff.1 q2
  obtain ⟨st1, st2⟩ := inB_iff.1 q'
  have EE := Lib.hid (few_in (st := st) (bud := bud) q ⟨q', q2⟩)
  have np := nSp_pos (st := st) (by omega)
  have nl := nSp_le st1
  have OK := Lib.hid (projs_all q)
  have n6 := (projs_all q).1
  have n6' : (n : Int) ≤ 6 := by omega
  obtain ⟨b0, hb0⟩ := Int.eq_ofNat_of_zero_le (show 0 ≤ bud by omega)
  subst hb0
  rw [Int.toNat_natCast] at EE
  obtain ⟨i0, hi, hz0, hz1, hz2⟩ := info_parts Tryd.infoBool
  obtain ⟨j0, hj, hj0, hj1, hj2⟩ := info_parts Tryd.infoBools
  go_enter Tryd.func9, Tryd.ntmps9
  go_wp2_with fail
  refine (l10Ask_any _ _ _ l _ _ hn hs hg).mono ?_
  rintro e w1 ⟨rfl, hb1⟩
  rw [E]
  go_wp2_with fail
  refine (l00In_eq _ _ _ _).mono ?_
  rintro e w2 ⟨rfl, rfl⟩
  rw [q2]
  clear E q q' q2
  go_wp2_with fail
  refine (l10Spots_any _ _ st1 st2).mono ?_
  rintro e w3 ⟨⟨v, rfl, g, hp⟩, hb3⟩
  replace hp : PairsG w3 w1.heap.size v (nSp st) (spX st) (spY st) g := hp
  obtain ⟨A2, c2, rfl, _, _, _⟩ := hp.readG
  have HB3 := hb1.trans (hb3.mono hb1.size)
  go_wp2_with fail
  generalize hW : World.alloc w3 _ = w4
  have h4 := bel_alloc hW
  have x4 := cells_alloc hW
  have s4 : w3.heap.size < w4.heap.size := x4.lt
  have L4 : FewL w4 w3.heap.size (.slice none 0 0) (.slice none 0 0) (b0 : Int) w4 := ⟨World.grownBy.refl _ _, x4⟩
  obtain ⟨s, hS⟩ : ∃ s, s = w3.heap.size := ⟨_, rfl⟩
  have B3 := Lib.hid (fun (wr : World) (hg : w4.grownBy wr (some s)) => (h4.grown hg h4.size (fun k hk => by injection hk with hk; omega) : Below w3.heap.size w3 wr))
  rw [← hS] at L4 s4 ⊢
  have HSS := Lib.hid hS
  clear hW x4 h4 hS
  go_loopw [11] (fun i wr => ∃ (k : Nat) (v : Value), k ≤ nSp st ∧ i = .int .i64 (k : Int) ∧ FewL w4 s (.slice none 0 0) v (b0 : Int) wr ∧ Row wr w4.heap.size 4 1 v k (BoolC (litS n l st))) (fun i _ => nSp st - (intOf i).toNat)
  case atStart => exact ⟨0, _, Nat.zero_le _, rfl, L4, Row.nil _ _ _ _ _⟩
  case round =>
    obtain ⟨k, v, hk, rfl, HL, hrow⟩ := hrel
    have hb3r := B3.out wr HL.g
    have HBI := HB3.trans (hb3r.mono HB3.size)
    have hp2 := hp.below hb3r
    have x0 := HL.x
    have HLL := Lib.hid HL
    have szw := HL.g.size
    by_cases hlt : k < nSp st
    · obtain ⟨bb, off, rfl, hbb, hcc⟩ := hp2.pr.1 (by omega)
      have PA := Lib.hid (show PairAt wr (g k) (spX st k) (spY st k) from hp2.pr.2 k hlt)
      have d0 := hcc k hlt
      have hlt' : (k : Int) < (nSp st : Int) := by omega
      have SI := Lib.hid (sp_i64 (st := st) (by omega) hlt)
      have HS2 := Lib.hid (hs.below HBI)
      obtain ⟨A', c', rfl, hcv, _, _⟩ := hrow.own
      clear hcc HL
      have u0 := x0.cell 0
      have u1 := x0.cell 1
      have u2 := x0.cell 2
      have u3 := x0.cell 3
      have u4 := x0.cell 4
      have u5 := x0.cell 5
      have u6 := x0.cell 6
      simp at u0 u1 u2 u3 u4 u5 u6
      have ul := x0.lt
      clear x0
      go_wp2_with fail
      refine Go.Ks.Make.wp_region_makeH 1 12 127 93 4 51 50 boolG boolCs (by kernel_rfl) (by kernel_rfl) (by rfl) (fun d _ _ _ _ h => by cases d <;> exact h) makeBool ?_
      simp only [List.take_succ_cons, List.take_zero, List.drop_succ_cons, List.drop_zero]
      repeat (go_big_quiet_step ((go_at_call 58; exact quiet_ext (l10Count_any _ n _ l _ _ _ _ OK.out.1 (HS2.out.below (ExtW.below _)) OK.out.2 (PA.out.below (ExtW.below _)) SI.out.1 SI.out.2))))
      refine wpQuiet_nil ?_
      refine ⟨⟨_, rfl⟩, ?_⟩
      intro B w6 hb6 hB hblk
      have hblk' : Blk w6 B 4 #[.bool (litS n l st k)] := hblk
      clear hblk u0 u1 u2 u3 u4 u5 u6 ul d0
      have hrow6 := hrow.below hb6
      have L6 := HLL.out.below hb6
      have sz6 := L6.g.size
      simp only [Act.put, List.setIfInBounds_toArray, List.set_cons_succ, List.set_cons_zero]
      refine wpList_append_row rfl _ _ 93 rfl w4.heap.size 4 i0 _ 1 1 Tryd.underlying93 hi hz0 hz1 hz2 rfl (by decide) _ k (BoolC (litS n l st)) rfl hrow6 B 1 rfl ?c1 (fun _ _ => rfl) (by omega) (by omega) sz6 ?_
      case c1 =>
        intro j hj
        obtain rfl : j = 0 := by omega
        rw [hblk'.cell, Nat.mul_one, Nat.add_zero]
        rfl
      intro v7 w7 hrow7 hg7
      obtain ⟨A7, c7, rfl, _, _, _⟩ := hrow7.own
      obtain ⟨x7, L8⟩ := L6.lit s4 hrow6 hg7 (.slice A7 (k + 1) c7)
      have hrow8 := Row.at_s hrow7 s4 1 (.slice A7 (k + 1) c7)
      have L8H := Lib.hid (And.intro L8 hrow8)
      clear hg7 L8 hrow8 hrow7 L6 hrow6
      have u0 := x7.cell 0
      have u1 := x7.cell 1
      have u2 := x7.cell 2
      have u3 := x7.cell 3
      have u4 := x7.cell 4
      have u5 := x7.cell 5
      have u6 := x7.cell 6
      simp at u0 u1 u2 u3 u4 u5 u6
      have ul := x7.lt
      have ug0 := x7.frozen 0
      have ug1 := x7.frozen 1
      have ug2 := x7.frozen 2
      have ug3 := x7.frozen 3
      have ug4 := x7.frozen 4
      have ug5 := x7.frozen 5
      have ug6 := x7.frozen 6
      clear x7
      try simp only [Act.put, List.setIfInBounds_toArray, List.set_cons_succ, List.set_cons_zero]
      go_wp2_with fail
      go_roundw
      case rel => exact ⟨k + 1, _, by omega, by go_num, L8H.out.1, L8H.out.2⟩
      case measure => simp [intOf]; omega
    · obtain rfl : k = nSp st := by omega
      obtain ⟨AL, cl, rfl, _, hown, _⟩ := hrow.own
      obtain ⟨BL, mL, gL, rfl, hBL, hkL, hmL, hgL⟩ := own_rowsB hown np
      have LB : RowsB wr w4.heap.size (fun _ => BL) (nSp st) 1 (fun _ => litS n l st) := fun j _ => ⟨hBL, mL, gL, hkL, hmL, hgL⟩
      clear hown hkL hgL hBL hrow x0 HL hp2 hb3r HBI
      go_wp2_with fail
      go_loopw [12, 13, 14] (fun i _ _ wr => ∃ (k : Nat) (vr : Value) (R cR : Nat → Nat), k ≤ n ∧ i = .int .i64 (k : Int) ∧ FewL w4 s vr (.slice (some ⟨BL, 0, none⟩) (nSp st) cl) (b0 : Int) wr ∧ Row wr w4.heap.size 93 1 vr k (rowV R (nSp st) cR) ∧ RowsB wr w4.heap.size R (nSp st) k (rowS l st) ∧ RowsB wr w4.heap.size (fun _ => BL) (nSp st) 1 (fun _ => litS n l st)) (fun i _ _ _ => n - (intOf i).toNat)
      case atStart => exact ⟨0, _, fun _ => 0, fun _ => 0, Nat.zero_le _, rfl, HLL.out, Row.nil _ _ _ _ _, fun j hj => absurd hj (Nat.not_lt_zero _), LB⟩
      case round =>
        obtain ⟨k, vr, R, cR, hk, rfl, HL, hrowR, hRB, hLB⟩ := hrel
        have hb3r := B3.out wr HL.g
        have HBI := HB3.trans (hb3r.mono HB3.size)
        have szw := HL.g.size
        have HLR := Lib.hid HL
        by_cases hltn : k < n
        · obtain ⟨b, off, rfl, hc⟩ := ProjectorAt.of_sl hs (by omega)
          have PC := Lib.hid (hc k hltn)
          have QK := Lib.hid (OK.out.2 k hltn)
          clear hc HL
          go_wp2_with fail
          generalize hW : World.alloc wr _ = w5
          have h5 := bel_alloc hW
          have r5 : Row w5 wr.heap.size 4 1 (.slice (some ⟨wr.heap.size, 0, none⟩) 0 0) 0 (BoolC (rowS l st k)) := by rw [← hW]; exact Row.empty wr _ _ _ (Nat.le_refl _)
          clear hW
          obtain ⟨wo, hwo⟩ : ∃ q : World, q = wr := ⟨_, rfl⟩
          subst hwo
          go_loopw [13, 14] (fun v i wr => ∃ q : Nat, q ≤ nSp st ∧ i = .int .i64 (q : Int) ∧ Row wr wo.heap.size 4 1 v q (BoolC (rowS l st k)) ∧ Below wo.heap.size wo wr) (fun _ i _ => nSp st - (intOf i).toNat)
          case atStart => exact ⟨0, Nat.zero_le _, rfl, r5, h5⟩
          case round =>
            obtain ⟨q, hq, rfl, hrow, hbq⟩ := hrel
            have hb3q := hb3r.trans (hbq.mono hb3r.size)
            have HBQ := HB3.trans (hb3q.mono HB3.size)
            have hp2 := hp.below hb3q
            by_cases hlq : q < nSp st
            · obtain ⟨bb, off2, rfl, hbb, hcc⟩ := hp2.pr.1 (by omega)
              obtain ⟨pg, p0, p1⟩ := show PairAt wr (g q) (spX st q) (spY st q) from hp2.pr.2 q hlq
              have d0 := hcc q hlq
              have hlq' : (q : Int) < (nSp st : Int) := by omega
              have SI := Lib.hid (sp_i64 (st := st) (by omega) hlq)
              have PK := Lib.hid (PC.out.below HBQ)
              clear hcc hp2
              go_wp2_with fail
              refine Go.Ks.Make.wp_region_makeH 0 19 127 93 4 87 86 boolG boolCs (by kernel_rfl) (by kernel_rfl) (by rfl) (fun d _ _ _ _ h => by cases d <;> exact h) makeBool ?_
              simp only [List.take_succ_cons, List.take_zero, List.drop_succ_cons, List.drop_zero]
              repeat (go_big_quiet_step (first | (go_at_call 60; exact quiet_ext (l04Direction_any _ _ SI.out.1 SI.out.2 _)) | (go_at_call 59; exact quiet_ext (l10Raw_any _ _ (l k) (spX st q) (spY st q) _ (PK.out.below (ExtW.below _)) QK.out))))
              refine wpQuiet_nil ?_
              refine ⟨⟨_, rfl⟩, ?_⟩
              intro B w6 hb6 hB hblk
              have hblk' : Blk w6 B 4 #[.bool (rowS l st k q)] := hblk
              clear hblk pg p0 p1 d0
              have hrow6 := hrow.below hb6
              have hbq6 := hbq.trans (hb6.mono hbq.size)
              have sz6 := hbq6.size
              simp only [Act.put, List.setIfInBounds_toArray, List.set_cons_succ, List.set_cons_zero]
              refine wpList_append_row rfl _ _ 93 rfl wo.heap.size 4 i0 _ 1 1 Tryd.underlying93 hi hz0 hz1 hz2 rfl (by decide) _ q (BoolC (rowS l st k)) rfl hrow6 B 1 rfl ?c1 (fun _ _ => rfl) (by omega) (by omega) sz6 ?_
              case c1 =>
                intro j hj
                obtain rfl : j = 0 := by omega
                rw [hblk'.cell, Nat.mul_one, Nat.add_zero]
                rfl
              intro v7 w7 hrow7 hg7
              have hbq7 := Row.after hbq6 (Nat.le_refl _) sz6 hrow6 hg7 hrow7
              clear hg7 hrow6
              try simp only [Act.put, List.setIfInBounds_toArray, List.set_cons_succ, List.set_cons_zero]
              go_wp2_with fail
              go_roundw
              case rel => exact ⟨q + 1, by omega, by go_num, hrow7, hbq7⟩
              case measure => simp [intOf]; omega
            · obtain rfl : q = nSp st := by omega
              obtain ⟨A5, c5, rfl, _, hown, _⟩ := hrow.own
              obtain ⟨B5, m5, g5, rfl, hB5, hk5, hm5, hg5⟩ := own_rowsB hown np
              have RB1 := ((hRB.below hbq).more (Nat.le_trans szw hB5) hk5 hm5 hg5)
              have LB1 := hLB.below hbq
              have L1 := HLR.out.below hbq
              have sz1 := L1.g.size
              obtain ⟨R', hR'⟩ : ∃ R' : Nat → Nat, R' = fun j => if j = k then B5 else R j := ⟨_, rfl⟩
              obtain ⟨cR', hcR'⟩ : ∃ cR' : Nat → Nat, cR' = fun j => if j = k then c5 else cR j := ⟨_, rfl⟩
              have rowc : Row wr w4.heap.size 93 1 vr k (rowV R' (nSp st) cR') := (hrowR.below hbq).congr (fun j hj => by unfold rowV; rw [hR', hcR']; simp only [if_neg (show ¬ j = k by omega)])
              have CN := Lib.hid (show rowV R' (nSp st) cR' k = .slice (some ⟨B5, 0, none⟩) (nSp st) c5 by unfold rowV; rw [hR', hcR']; simp)
              rw [← hR'] at RB1
              obtain ⟨AR, cr, rfl, _, _, _⟩ := rowc.own
              have x1 := L1.x
              have L1H := Lib.hid L1
              have RB1H := Lib.hid RB1
              have LB1H := Lib.hid LB1
              clear hR' hcR' hrowR hRB hLB hown hk5 hg5 hrow HLR L1 RB1 LB1 hp2 HBQ hb3q
              have u0 := x1.cell 0
              have u1 := x1.cell 1
              have u2 := x1.cell 2
              have u3 := x1.cell 3
              have u4 := x1.cell 4
              have u5 := x1.cell 5
              have u6 := x1.cell 6
              simp at u0 u1 u2 u3 u4 u5 u6
              have ul := x1.lt
              clear x1
              go_wp2_with (at_builtin; refine wpList_append_row rfl _ _ 92 rfl w4.heap.size 93 j0 _ 1 24 Tryd.underlying92 hj hj0 hj1 hj2 rfl (by decide) _ k (rowV R' (nSp st) cR') rfl (rowc.alloc _) wr.heap.size 1 rfl ?c1 (fun _ _ => rfl) ?c3 ?c4 ?c5 ?_)
              case c1 =>
                intro j hj
                obtain rfl : j = 0 := by omega
                rw [Nat.mul_one, Nat.add_zero, CN.out]
                exact (Blk.new _ _ _).cell 0
              case c3 => omega
              case c4 => omega
              case c5 => first | omega | (simp; omega)
              intro v2 w2 row2 hg2
              obtain ⟨A2', d2, rfl, _, _, _⟩ := row2.own
              have hal := bel_alloc (rfl : wr.alloc (.cells #[.slice (some ⟨B5, 0, none⟩) (nSp st) c5] 93) = wr.alloc (.cells #[.slice (some ⟨B5, 0, none⟩) (nSp st) c5] 93))
              obtain ⟨x2, L2⟩ := (L1H.out.below hal).reach s4 (rowc.alloc _) hg2 (.slice A2' (k + 1) d2)
              have RB2 := (RB1H.out.below hal).grow (rowc.alloc _) hg2 (by decide)
              have LB2 := (LB1H.out.below hal).grow (rowc.alloc _) hg2 (by decide)
              have gs := only_setCell (World.grownBy.refl w2 (some s)) (p := ⟨s, 0, none⟩) (.inl rfl) (.slice A2' (k + 1) d2)
              have FIN := Lib.hid (And.intro L2 (And.intro (Row.at_s row2 s4 0 (.slice A2' (k + 1) d2)) (And.intro (RB2.only gs s4) (LB2.only gs s4))))
              clear hg2 row2 rowc L2 RB2 LB2 gs hal L1H RB1H LB1H u0 u1 u2 u3 u4 u5 u6 ul
              have u0 := x2.cell 0
              have u1 := x2.cell 1
              have u2 := x2.cell 2
              have u3 := x2.cell 3
              have u4 := x2.cell 4
              have u5 := x2.cell 5
              have u6 := x2.cell 6
              simp at u0 u1 u2 u3 u4 u5 u6
              have ul := x2.lt
              have ug0 := x2.frozen 0
              have ug1 := x2.frozen 1
              have ug2 := x2.frozen 2
              have ug3 := x2.frozen 3
              have ug4 := x2.frozen 4
              have ug5 := x2.frozen 5
              have ug6 := x2.frozen 6
              clear x2
              go_wp2_with fail
              go_roundw
              case rel => exact ⟨k + 1, _, R', cR', by omega, by go_num, FIN.out.1, FIN.out.2.1, FIN.out.2.2.1, FIN.out.2.2.2⟩
              case measure => simp [intOf]; omega
        · have hkn : n = k := by omega
          subst hkn
          obtain ⟨AR, cr, rfl, _, _, _⟩ := hrowR.own
          obtain ⟨wz, rfl⟩ : ∃ q : World, q = wr := ⟨_, rfl⟩
          have hsz : s < wz.heap.size := by omega
          have KEEP := Lib.hid (few_keep hrowR hRB hLB s4 s4)
          have L0 := Lib.hid HL
          have x1 := HL.x
          have LE := Lib.hid (show (fun c => enB (litS n l st) (rowS l st) c (nSp st)) = fewL n l st from funext (fun c => enL_eq n l st c))
          have LF := Lib.hid (show fewL n l st (List.range n) = true from full_lit (rise_range (Nat.le_refl n)) (by simp) (fun j hj => ned_lit _ j hj))
          obtain ⟨L, hL⟩ : ∃ L, fewL n l st = L := ⟨_, rfl⟩
          rw [hL] at EE LE LF
          clear hL hrowR hRB hLB HL HBI hltn
          have S00 : FewS wz s AR n cr (some ⟨BL, 0, none⟩) (nSp st) cl 0 b0 [] b0 false (.slice none 0 0) wz := ⟨World.grownBy.refl _ _, by rw [Int.sub_self]; exact x1, Row.nil _ _ _ _ _⟩
          have S0 := Lib.hid (S00.size (m' := 0) hsz)
          clear S00
          have u0 := x1.cell 0
          have u1 := x1.cell 1
          have u2 := x1.cell 2
          have u3 := x1.cell 3
          have u4 := x1.cell 4
          have u5 := x1.cell 5
          have u6 := x1.cell 6
          simp at u0 u1 u2 u3 u4 u5 u6
          have ul := x1.lt
          have ug0 := x1.frozen 0
          have ug1 := x1.frozen 1
          have ug2 := x1.frozen 2
          have ug3 := x1.frozen 3
          have ug4 := x1.frozen 4
          have ug5 := x1.frozen 5
          have ug6 := x1.frozen 6
          clear x1
          go_wp2_with fail
          go_loopw [105] (fun _ wr => ∃ (m B : Nat) (v : Value), m ≤ n ∧ B ≤ b0 ∧ FewS wz s AR n cr (some ⟨BL, 0, none⟩) (nSp st) cl m b0 [] B false v wr ∧ srch n L b0 [] = srch n L B (List.range m)) (fun _ wr => n + 1 - (intOf ((wr.cell? ⟨s, 2, none⟩).getD undef)).toNat)
          case atStart => exact ⟨0, b0, _, Nat.zero_le _, Nat.le_refl _, S0.out, rfl⟩
          case round =>
            obtain ⟨m, B, v, hm, hB, S, hS⟩ := hrel
            have HS := Lib.hid hS
            have HSS2 := Lib.hid S
            have RUN := run_any wz s AR n cr (some ⟨BL, 0, none⟩) (nSp st) cl m b0 R cR (rowS l st) (litS n l st) nl n6 hm (by omega) hsz KEEP.out m [] 0 B v wr (by simp) (Nat.zero_le _) (fun q hq => absurd hq (Nat.not_lt_zero _)) hB S
            rw [LE.out, Nat.sub_zero] at RUN
            have SL := Lib.hid (srch_lv (n := n) (m := m) (by omega) (by omega) L B)
            have LL := Lib.hid (scan_last (n := n) (by omega) LF.out B)
            have SM := Lib.hid (fun c (h : (scan L (lv m [] 0 n) B).1 = some c) => lv_mem m [] 0 n c (scan_mem L _ _ c h))
            obtain ⟨r1, hr1⟩ : ∃ r1, scan L (lv m [] 0 n) B = r1 := ⟨_, rfl⟩
            have SB := scan_le L (lv m [] 0 n) B
            rw [hr1] at RUN SL SM SB
            have HR1 := Lib.hid hr1
            have RUNH : Hid (Calls Tryd.prog 61 #[.pointer (some ⟨s, 0, none⟩), .int .i64 0] wr fun e w' => RunR wz s AR n cr (some ⟨BL, 0, none⟩) (nSp st) cl m b0 [] r1 e w') := RUN
            have x1 := S.x
            have hm' : (m : Int) ≤ (n : Int) := by omega
            clear hS S hr1 RUN
            have u0 := x1.cell 0
            have u1 := x1.cell 1
            have u2 := x1.cell 2
            have u3 := x1.cell 3
            have u4 := x1.cell 4
            have u5 := x1.cell 5
            have u6 := x1.cell 6
            simp at u0 u1 u2 u3 u4 u5 u6
            have ul := x1.lt
            clear x1
            go_wp2_with fail
            refine RUNH.out.mono ?_
            rintro e w6 ⟨rfl, v6, S6⟩
            obtain ⟨o1, B1, f1⟩ := r1
            have UM := Lib.hid (show wr.cell? ⟨s, 2, none⟩ = some (.int .i64 (m : Int)) from HSS2.out.x.cell 2)
            clear RUNH u0 u1 u2 u3 u4 u5 u6 ul HSS2
            have gZ := L0.out.g.trans S6.g
            have HB6 := HB3.trans ((B3.out w6 gZ).mono HB3.size)
            have S6H := Lib.hid S6
            cases o1 with
            | some c1 =>
              have c1l := Lib.hid (show c1.length = m by have := SM.out c1 rfl; simpa using this)
              have HO := Lib.hid (show mFewO n l st (b0 : Int) = some c1 from EE.out.1.trans (HS.out.trans SL.out))
              have HC := Lib.hid (show mFewC n l st (b0 : Int) = 0 by rw [EE.out.2, HS.out.trans SL.out]; rfl)
              have S7 : FewS wz s AR n cr (some ⟨BL, 0, none⟩) (nSp st) cl m b0 c1 B1 f1 v6 w6 := S6
              have r7 := Lib.hid S7.row
              have x7 := S7.x
              clear S6 S7 S6H
              obtain ⟨A4, d4, rfl, _, _, _⟩ := r7.out.own
              have u0 := x7.cell 0
              have u1 := x7.cell 1
              have u2 := x7.cell 2
              have u3 := x7.cell 3
              have u4 := x7.cell 4
              have u5 := x7.cell 5
              have u6 := x7.cell 6
              simp at u0 u1 u2 u3 u4 u5 u6
              have ul := x7.lt
              clear x7
              go_wp2_with fail
              refine (l00Own_any _ wz.heap.size c1 w6 (by have := c1l.out; omega) r7.out).mono ?_
              rintro e w8 ⟨⟨A5, c5, rfl, ho, hz⟩, hb8⟩
              have HB8 := HB6.trans (hb8.mono HB6.size)
              go_wp2_with fail
              go_ret2
              exact ⟨retS_some HO.out HC.out HB6.size ho hz, HB8⟩
            | none =>
              have S7 : FewS wz s AR n cr (some ⟨BL, 0, none⟩) (nSp st) cl m b0 [] B1 f1 v6 w6 := S6
              have S7H := Lib.hid S7
              have x7 := S7.x
              clear S6 S6H S7
              cases f1 with
              | true =>
                have HO := Lib.hid (show mFewO n l st (b0 : Int) = none from EE.out.1.trans (HS.out.trans SL.out))
                have HC := Lib.hid (show mFewC n l st (b0 : Int) = 5 by rw [EE.out.2, HS.out.trans SL.out]; rfl)
                have u0 := x7.cell 0
                have u1 := x7.cell 1
                have u2 := x7.cell 2
                have u3 := x7.cell 3
                have u4 := x7.cell 4
                have u5 := x7.cell 5
                have u6 := x7.cell 6
                simp at u0 u1 u2 u3 u4 u5 u6
                have ul := x7.lt
                clear x7
                go_wp2_with fail
                go_ret2
                exact ⟨retF_s (retF_no HO.out HC.out), HB6⟩
              | false =>
                have hmn : m < n := by
                  rcases Nat.lt_or_ge m n with h | h
                  · exact h
                  · have e : m = n := by omega
                    have h2 := LL.out
                    have h3 := HR1.out
                    rw [e] at h3
                    rw [h3] at h2
                    exact absurd (h2 rfl) Bool.false_ne_true
                have HN := Lib.hid (show srch n L b0 [] = srch n L B1 (List.range (m + 1)) from HS.out.trans SL.out)
                have wr1 : IntKind.i64.wrap ((m : Int) + 1) = (m : Int) + 1 := by rw [IntKind.wrap_i64]; omega
                have S8 := Lib.hid (S7H.out.size (m' := m + 1) hsz)
                have ec : ((m + 1 : Nat) : Int) = (m : Int) + 1 := by omega
                rw [ec] at S8
                have u0 := x7.cell 0
                have u1 := x7.cell 1
                have u2 := x7.cell 2
                have u3 := x7.cell 3
                have u4 := x7.cell 4
                have u5 := x7.cell 5
                have u6 := x7.cell 6
                simp at u0 u1 u2 u3 u4 u5 u6
                have ul := x7.lt
                have ug0 := x7.frozen 0
                have ug1 := x7.frozen 1
                have ug2 := x7.frozen 2
                have ug3 := x7.frozen 3
                have ug4 := x7.frozen 4
                have ug5 := x7.frozen 5
                have ug6 := x7.frozen 6
                clear x7 ec
                go_wp2_with fail
                have UN := Lib.hid (show (w6.setCell ⟨s, 2, none⟩ (.int .i64 ((m : Int) + 1))).cell? ⟨s, 2, none⟩ = some (.int .i64 ((m : Int) + 1)) from S8.out.x.cell 2)
                go_roundw
                case rel => exact ⟨m + 1, B1, v6, by omega, by omega, S8.out, HN.out⟩
                case measure =>
                  rw [UM.out, UN.out]
                  simp [intOf]
                  omega
end Go.Proofs.YthjllledhcfnhaaDoor
