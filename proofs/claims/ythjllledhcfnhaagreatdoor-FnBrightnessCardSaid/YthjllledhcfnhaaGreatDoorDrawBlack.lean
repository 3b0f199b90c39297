/- Drawn black levels. Conditions: the code is shorter than 2^20. -/
import Derived.Test.YthjllledhcfnhaaGreatDoorDrawList
import Derived.Test.YthjllledhcfnhaaGreatDoorInts
import Derived.OwnWalk
import Derived.Test.YthjllledhcfnhaaGreatDoorDrawSt
namespace Go.Proofs.YthjllledhcfnhaaGreatDoor
open Go.RowKit Go.Lib Go.Ks
set_option maxRecDepth 100000 in
set_option maxHeartbeats 4000000 in
theorem l10DrawStep_any (s : Nat) (A : Option Addr) (n c : Nat) (l : Nat → Int) (k : Nat) (w : World) (hn : n ≤ 1048576) (hk : k ≤ 890000) (h : Src w s A n c l k) :
    Calls Tryz.prog 50 #[.pointer (some ⟨s, 0, none⟩)] w fun e w' => (∃ x : Int, e = .returned (.int .i64 x) ∧ 9999 ≤ x ∧ x ≤ 90001) ∧ Src w' s A n c l (k + 2) ∧ w.grownBy w' (some s) := by
  have hs := h.lt
  go_enter Tryz.func50, Tryz.ntmps50
  go_wp2_with fail
  generalize hV : World.alloc w _ = w1
  have hw1 := bel_alloc hV
  have yw1 : Blk w1 w.heap.size 2 #[.int .i64 30000, .int .i64 45000, .int .i64 90000, .int .i64 40000, .int .i64 60000, .int .i64 25000, .int .i64 10000, .int .i64 9999, .int .i64 90001] := cells_alloc hV
  clear hV
  refine (among_any s A n c l k w.heap.size 9 9 (fun z => 9999 ≤ z ∧ z ≤ 90001) _ hn (by omega) (by decide) ⟨yw1.lt, by omega⟩ ?_ (h.below hw1)).mono ?_
  · intro j hj
    match j, hj with
    | 0, _ => exact ⟨_, yw1.cell 0, by decide⟩
    | 1, _ => exact ⟨_, yw1.cell 1, by decide⟩
    | 2, _ => exact ⟨_, yw1.cell 2, by decide⟩
    | 3, _ => exact ⟨_, yw1.cell 3, by decide⟩
    | 4, _ => exact ⟨_, yw1.cell 4, by decide⟩
    | 5, _ => exact ⟨_, yw1.cell 5, by decide⟩
    | 6, _ => exact ⟨_, yw1.cell 6, by decide⟩
    | 7, _ => exact ⟨_, yw1.cell 7, by decide⟩
    | 8, _ => exact ⟨_, yw1.cell 8, by decide⟩
  rintro e w2 ⟨⟨x, rfl, x1, x2⟩, hs2, hg2⟩
  go_wp2_with fail
  go_ret
  exact ⟨⟨x, rfl, x1, x2⟩, hs2, (only_of_below hw1 (some s)).trans hg2⟩
end Go.Proofs.YthjllledhcfnhaaGreatDoor
namespace Go.Proofs.YthjllledhcfnhaaGreatDoor
open Go.RowKit Go.Lib Go.Ks
/-- one number more -/
def addI (b : Nat → Int) (n : Nat) (x : Int) : Nat → Int := fun j => if j = n then x else b j
theorem addI_old {b : Nat → Int} {n : Nat} {x : Int} (j : Nat) (hj : j < n * 1) : IntC b j = IntC (addI b n x) j := by
  unfold IntC addI; rw [if_neg (by omega)]
theorem addI_new {W : World} {B : Nat} {b : Nat → Int} {n : Nat} {x : Int} {t : TypeId} (h : Blk W B t #[.int .i64 x]) : ∀ j, j < 1 → W.cell? ⟨B, j, none⟩ = some (IntC (addI b n x) (n * 1 + j)) := fun j hj => by
  obtain rfl : j = 0 := by omega
  rw [h.cell 0]
  simp [addI, IntC]
theorem addI_all {P : Int → Prop} {b : Nat → Int} {n : Nat} {x : Int} (h : ∀ j, j < n → P (b j)) (h' : P x) : ∀ j, j < n + 1 → P (addI b n x j) := fun j hj => by
  unfold addI
  by_cases q : j = n
  · rw [if_pos q]; exact h'
  · rw [if_neg q]; exact h j (by omega)
theorem int_if {P : Int → Prop} {n i : Nat} {b : Nat → Int} {x : Int} (h : ∀ j, j < n → P (b j)) (h' : P x) : ∀ j, j < n → P (if j = i then x else b j) := fun j hj => by
  by_cases q : j = i
  · rw [if_pos q]; exact h'
  · rw [if_neg q]; exact h j hj
def BlB (x : Int) : Prop := -1 ≤ x ∧ x ≤ 1001
/-- what a draw of projectors and black levels leaves -/
def RetBl (w w' : World) (e : Ending) : Prop :=
  ∃ (A : Option Addr) (n c : Nat) (L : Nat → ProjectorD) (A2 : Option Addr) (m c2 : Nat) (b : Nat → Int), e = .returned (.tuple #[.slice A n c, .slice A2 m c2]) ∧ (n ≤ 7 ∧ Own w' w.heap.size 125 5 A n (ProjectorC L) ∧ ∀ j, j < n → PrB (L j)) ∧ m ≤ 8 ∧ Own w' w.heap.size 2 1 A2 m (IntC b) ∧ ∀ j, j < m → BlB (b j)
set_option maxRecDepth 100000 in
set_option maxHeartbeats 8000000 in
theorem l12DrawBlacks_any (s : Nat) (A : Option Addr) (n c : Nat) (l : Nat → Int) (k : Nat) (w : World) (hn : n ≤ 1048576) (hk : k ≤ 700000) (h : Src w s A n c l k) :
    Calls Tryz.prog 49 #[.pointer (some ⟨s, 0, none⟩)] w fun e w' => RetBl w w' e ∧ Src w' s A n c l (k + 200) ∧ w.grownBy w' (some s) := by
  have hsl := h.lt
  have hA := code_lt h
  obtain ⟨i0, hi, hz0, hz1, hz2⟩ := info_parts Tryz.infoI64
  go_enter Tryz.func49, Tryz.ntmps49
  go_wp2_with fail
  refine (l10Draw_any s A n c l k _ hn (by omega) h).mono ?_
  rintro e w1 ⟨⟨A0, n0, c0, L0, rfl, h0, own0, kn0⟩, hs1, hg1⟩
  have KN := Lib.hid kn0
  clear kn0
  have sz1 := hg1.size
  go_wp2_with fail
  generalize hV : World.alloc w1 _ = w2
  have h2 := bel_alloc hV
  have r2 : Row w2 w1.heap.size 2 1 (.slice (some ⟨w1.heap.size, 0, none⟩) 0 0) 0 (IntC (fun _ => 0)) := by rw [← hV]; exact Row.empty w1 _ _ _ (Nat.le_refl _)
  have g2 := only_then hg1 h2
  have hs2 := hs1.below h2
  clear hV hs1
  go_wp2_with fail
  go_loopw [5, 6] (fun v i wr => ∃ (M : Nat) (b : Nat → Int), M ≤ n0 ∧ i = .int .i64 (M : Int) ∧ Row wr w1.heap.size 2 1 v M (IntC b) ∧ (∀ j, j < M → BlB (b j)) ∧ Src wr s A n c l (k + 120 + 2 * M) ∧ w1.grownBy wr (some s)) (fun _ i _ => n0 - (intOf i).toNat)
  case atStart => exact ⟨0, _, Nat.zero_le _, rfl, r2, fun j hj => absurd hj (Nat.not_lt_zero _), hs2, only_of_below h2 (some s)⟩
  case round =>
    obtain ⟨M, b, hM, rfl, row, hb, hsr, hg⟩ := hrel
    have HB := Lib.hid hb
    clear hb
    have gsz := hg.size
    by_cases hlt : M < n0
    · have hlt' : (M : Int) < (n0 : Int) := by omega
      go_wp2_with fail
      refine (pick_any s A n c l _ 80 _ hn (by omega) (by decide) hsr).mono ?_
      rintro e w5 ⟨⟨x, rfl, x0, x1⟩, hs5, hg5⟩
      have row5 := row.only hg5 (by omega)
      have gw5 := hg.trans hg5
      have gsz5 := gw5.size
      clear row hsr hg gsz hg5
      have rowc := row5.congr (f' := IntC (addI b M x)) (fun j hj => addI_old j hj)
      go_wp2_with (at_builtin; refine wpList_append_row rfl _ _ 38 rfl w1.heap.size 2 i0 _ 1 8 Tryz.underlying38 hi hz0 hz1 hz2 rfl (by decide) _ M (IntC (addI b M (x))) rfl (rowc.alloc _) w5.heap.size 1 rfl ?c1 (fun _ _ => rfl) ?c3 ?c4 ?c5 ?_)
      case c1 => exact addI_new (Blk.new w5 _ _)
      case c3 => omega
      case c4 => omega
      case c5 => first | omega | (simp; omega)
      intro v' w7 row8 hg7
      have gw7 := only_row (only_alloc gw5 _) (rowc.alloc _) (Nat.le_refl _) hg7
      have hs7 := draw_src hs5 hA hsl sz1 (rowc.alloc _) rfl hg7
      clear hg7
      go_wp2_with fail
      go_roundw
      case rel => exact ⟨M + 1, _, by omega, by go_num, row8, addI_all HB.out ⟨by omega, by omega⟩, hs7.more (by omega), gw7⟩
      case measure => simp [intOf]; omega
    · have hMn : n0 = M := by omega
      subst hMn
      go_wp2_with fail
      refine (pick_any s A n c l _ 14 _ hn (by omega) (by decide) hsr).mono ?_
      rintro e w5 ⟨⟨p, rfl, p0, p1⟩, hs5, hg5⟩
      have row5 := row.only hg5 (by omega)
      have gw5 := hg.trans hg5
      have gsz5 := gw5.size
      clear row hsr hg gsz hg5
      have OWN := Lib.hid (fun (w' : World) (hg : w1.grownBy w' (some s)) => own0.only hg hsl)
      by_cases q0 : p = 0
      · subst q0
        have rowc := row5.congr (f' := IntC (addI b n0 5)) (fun j hj => addI_old j hj)
        go_wp2_with (at_builtin; refine wpList_append_row rfl _ _ 38 rfl w1.heap.size 2 i0 _ 1 8 Tryz.underlying38 hi hz0 hz1 hz2 rfl (by decide) _ n0 (IntC (addI b n0 5)) rfl (rowc.alloc _) w5.heap.size 1 rfl ?c1 (fun _ _ => rfl) ?c3 ?c4 ?c5 ?_)
        case c1 => exact addI_new (Blk.new w5 _ _)
        case c3 => omega
        case c4 => omega
        case c5 => first | omega | (simp; omega)
        intro v' w7 row8 hg7
        have gw7 := only_row (only_alloc gw5 _) (rowc.alloc _) (Nat.le_refl _) hg7
        have hs7 := draw_src hs5 hA hsl sz1 (rowc.alloc _) rfl hg7
        clear hg7
        obtain ⟨A2, c2, rfl, _, ho, _⟩ := row8.own
        go_wp2_with fail
        go_ret2
        exact ⟨⟨A0, n0, c0, L0, A2, n0 + 1, c2, _, rfl, ⟨h0, OWN.out _ gw7, KN.out⟩, by omega, ho.mono sz1, addI_all HB.out ⟨by decide, by decide⟩⟩, hs7.more (by omega), hg1.trans gw7⟩
      by_cases q1 : p = 1
      · subst q1
        cases n0 with
        | zero =>
          obtain ⟨A2, c2, rfl, _, ho, _⟩ := row5.own
          go_wp2_with fail
          go_ret2
          exact ⟨⟨A0, 0, c0, L0, A2, 0, c2, b, rfl, ⟨h0, OWN.out _ gw5, KN.out⟩, by omega, ho.mono sz1, HB.out⟩, hs5.more (by omega), hg1.trans gw5⟩
        | succ N =>
          obtain ⟨B2, c2, m2, g3, rfl, _, hB2, kb, hm2, hgg⟩ := row5.blk
          have HGG := Lib.hid hgg
          have np : (0 : Int) < (N : Int) + 1 := by omega
          clear hgg row5
          go_wp2_with fail
          generalize hV : World.alloc w5 _ = w6
          have h6 := bel_alloc hV
          have y6 : Blk w6 w5.heap.size 2 #[.int .i64 (-1), .int .i64 1000, .int .i64 1001] := cells_alloc hV
          clear hV
          refine (among_any s A n c l _ w5.heap.size 3 3 (fun z => -1 ≤ z ∧ z ≤ 1001) _ hn (by omega) (by decide) ⟨y6.lt, by omega⟩ ?_ (hs5.below h6)).mono ?_
          · intro j hj
            match j, hj with
            | 0, _ => exact ⟨_, y6.cell 0, by decide⟩
            | 1, _ => exact ⟨_, y6.cell 1, by decide⟩
            | 2, _ => exact ⟨_, y6.cell 2, by decide⟩
          rintro e w7 ⟨⟨t, rfl, t0, t1⟩, hs7, hg7⟩
          have gw7 := (only_then gw5 h6).trans hg7
          have kb7 := blk_grown (kb.below h6 kb.lt) hg7 (fun e => by injection e with e; omega)
          have FAR := Lib.hid (hs7.grown (only_setCell (World.grownBy.refl w7 (some B2)) (p := ⟨B2, 0, none⟩) (.inl rfl) (.int .i64 t)) (fun b e => by injection e with e; subst e; exact ⟨by omega, fun ad he hm => by have := hA ad he hm; omega⟩))
          have k0 : w7.cell? ⟨B2, 0, none⟩ = some (.int .i64 (b 0)) := by rw [kb7.cell, arr_get _ _ _ (by omega), HGG.out 0 (by omega)]; rfl
          have f0 := kb7.frozen 0
          have bl := kb7.lt
          clear y6 h6 hg7 hs5 gw5 kb hs7
          go_wp2_with fail
          go_ret2
          refine ⟨⟨A0, N + 1, c0, L0, some ⟨B2, 0, none⟩, N + 1, c2, fun j => if j = 0 then t else b j, rfl, ⟨h0, OWN.out _ (only_setCell gw7 (.inr hB2) _), KN.out⟩, by omega, ?_, int_if HB.out ⟨t0, t1⟩⟩, FAR.out.more (by omega), hg1.trans (only_setCell gw7 (.inr hB2) _)⟩
          have k1 := kb7.set_ 0 (.int .i64 t)
          rw [arr_set] at k1
          refine Own.blk k1 (Nat.le_trans sz1 hB2) hm2 (fun j hj => ?_)
          by_cases e : j = 0
          · subst e
            rw [if_pos rfl]
            rfl
          · rw [if_neg e, HGG.out j hj]
            show Value.int .i64 (b j) = Value.int .i64 (if j = 0 then t else b j)
            rw [if_neg e]
      · obtain ⟨A2, c2, rfl, _, ho, _⟩ := row5.own
        go_wp2_with fail
        go_ret2
        exact ⟨⟨A0, n0, c0, L0, A2, n0, c2, b, rfl, ⟨h0, OWN.out _ gw5, KN.out⟩, by omega, ho.mono sz1, HB.out⟩, hs5.more (by omega), hg1.trans gw5⟩
theorem code_slB {w : World} {A : Option Addr} {n : Nat} {l : Nat → Int} (hs : Sl w A (n * 1) (ByteC l)) : ∀ ad, A = some ad → 0 < n * 1 → ad.block < w.heap.size := fun ad e hm => by
  obtain ⟨b, off, e2, hb, _⟩ := hs hm
  rw [e] at e2
  injection e2 with e2
  rw [e2]
  exact hb
set_option maxRecDepth 100000 in
set_option maxHeartbeats 2000000 in
theorem drawUniform_any (A : Option Addr) (n c : Nat) (l : Nat → Int) (w : World) (hn : n ≤ 1048576) (hs : Sl w A (n * 1) (ByteC l)) (hl : ∀ j, j < n → 0 ≤ l j ∧ l j ≤ 255) :
    Calls Tryz.prog 14 #[.slice A n c] w fun e w' => (∃ (A0 : Option Addr) (n0 c0 : Nat) (L : Nat → ProjectorD) (A2 : Option Addr) (m c2 : Nat) (b : Nat → Int) (x : Int), e = .returned (.tuple #[.slice A0 n0 c0, .slice A2 m c2, .int .i64 x]) ∧ (n0 ≤ 7 ∧ Own w' w.heap.size 125 5 A0 n0 (ProjectorC L) ∧ ∀ j, j < n0 → PrB (L j)) ∧ (m ≤ 8 ∧ Own w' w.heap.size 2 1 A2 m (IntC b) ∧ ∀ j, j < m → BlB (b j)) ∧ 9999 ≤ x ∧ x ≤ 90001) ∧ Below w.heap.size w w' := by
  go_enter Tryz.func14, Tryz.ntmps14
  go_wp2_with fail
  refine (from_any A n c l _ hs hl (code_slB hs)).mono ?_
  rintro e w1 ⟨rfl, hs1, hb1⟩
  have sz1 := hs1.lt
  go_wp2_with fail
  refine (l12DrawBlacks_any w.heap.size A n c l 0 _ hn (by omega) hs1).mono ?_
  rintro e w2 ⟨⟨A0, n0, c0, L0, A2, m, c2, b, rfl, ⟨h0, own0, kn0⟩, hm, own1, kb⟩, hs2, hg2⟩
  have sz2 := hg2.size
  go_wp2_with fail
  refine (l10DrawStep_any w.heap.size A n c l _ _ hn (by omega) hs2).mono ?_
  rintro e w3 ⟨⟨x, rfl, hx⟩, hs3, hg3⟩
  have own0' := own0.only hg3 (by omega)
  have own1' := own1.only hg3 (by omega)
  go_wp2_with fail
  (try simp only [Exit.inBlock, Exit.then])
  refine bodyPost_ret (results_tmp3 rfl _ _ _) rfl ?_
  exact ⟨⟨A0, n0, c0, L0, A2, m, c2, b, x, rfl, ⟨h0, own0'.mono (by omega), kn0⟩, ⟨hm, own1'.mono (by omega), kb⟩, hx⟩, below_by (below_by hb1 hg2 (Nat.le_refl _)) hg3 (Nat.le_refl _)⟩
end Go.Proofs.YthjllledhcfnhaaGreatDoor
