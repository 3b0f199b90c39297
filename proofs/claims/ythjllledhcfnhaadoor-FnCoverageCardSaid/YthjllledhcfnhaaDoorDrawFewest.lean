/- The drawn inputs of FnCoverage. Conditions: the code is shorter than 2^20. -/
import Derived.Test.YthjllledhcfnhaaDoorDrawWeights
import Derived.Test.YthjllledhcfnhaaDoorDrawStep
namespace Go.Proofs.YthjllledhcfnhaaDoor
open Go.RowKit Go.Lib Go.Ks
set_option maxRecDepth 100000 in
set_option maxHeartbeats 4000000 in
theorem l08DrawBudget_any (s : Nat) (A : Option Addr) (n c : Nat) (l : Nat → Int) (k : Nat) (w : World) (hn : n ≤ 1048576) (hk : k ≤ 890000) (h : Src w s A n c l k) :
    Calls Tryd.prog 81 #[.pointer (some ⟨s, 0, none⟩)] w fun e w' => (∃ x : Int, e = .returned (.int .i64 x) ∧ 0 ≤ x ∧ x ≤ 20001) ∧ Src w' s A n c l (k + 4) ∧ w.grownBy w' (some s) := by
  have hs := h.lt
  go_enter Tryd.func81, Tryd.ntmps81
  go_wp2_with fail
  refine (one_any s A n c l k 6 _ hn (by omega) (by decide) h).mono ?_
  rintro e w1 ⟨⟨b, rfl⟩, hs1, hg1⟩
  have sz1 := hg1.size
  cases b
  · go_wp2_with fail
    refine (pick_any s A n c l (k + 2) 400 _ hn (by omega) (by decide) hs1).mono ?_
    rintro e w2 ⟨⟨x, rfl, x1, x2⟩, hs2, hg2⟩
    have wr : IntKind.i64.wrap (x + 1) = x + 1 := by rw [IntKind.wrap_i64]; omega
    go_wp2_with fail
    go_ret
    exact ⟨⟨_, rfl, by omega, by omega⟩, hs2, hg1.trans hg2⟩
  · go_wp2_with fail
    generalize hV : World.alloc w1 _ = w2
    have hw2 := bel_alloc hV
    have yw2 : Blk w2 w1.heap.size 2 #[.int .i64 0, .int .i64 1, .int .i64 5, .int .i64 20000, .int .i64 20001] := cells_alloc hV
    clear hV
    refine (among_any s A n c l (k + 2) w1.heap.size 5 5 (fun z => 0 ≤ z ∧ z ≤ 20001) _ hn (by omega) (by decide) ⟨yw2.lt, by omega⟩ ?_ (hs1.below hw2)).mono ?_
    · intro j hj
      match j, hj with
      | 0, _ => exact ⟨_, yw2.cell 0, by decide⟩
      | 1, _ => exact ⟨_, yw2.cell 1, by decide⟩
      | 2, _ => exact ⟨_, yw2.cell 2, by decide⟩
      | 3, _ => exact ⟨_, yw2.cell 3, by decide⟩
      | 4, _ => exact ⟨_, yw2.cell 4, by decide⟩
    rintro e w3 ⟨⟨x, rfl, x1, x2⟩, hs3, hg3⟩
    go_wp2_with fail
    go_ret
    exact ⟨⟨x, rfl, x1, x2⟩, hs3, (only_then hg1 hw2).trans hg3⟩
set_option maxRecDepth 100000 in
set_option maxHeartbeats 4000000 in
theorem drawFewest_any (A : Option Addr) (n c : Nat) (l : Nat → Int) (w : World) (hn : n ≤ 1048576) (hs : Sl w A (n * 1) (ByteC l)) (hl : ∀ j, j < n → 0 ≤ l j ∧ l j ≤ 255) :
    Calls Tryd.prog 23 #[.slice A n c] w fun e w' => (∃ (A0 : Option Addr) (n0 c0 : Nat) (L0 : Nat → ProjectorD) (x y : Int), e = .returned (.tuple #[.slice A0 n0 c0, .int .i64 x, .int .i64 y]) ∧ (n0 ≤ 7 ∧ Own w' w.heap.size 43 5 A0 n0 (ProjectorC L0) ∧ ∀ j, j < n0 → PrB (L0 j)) ∧ (9999 ≤ x ∧ x ≤ 90001) ∧ 0 ≤ y ∧ y ≤ 20001) ∧ Below w.heap.size w w' := by
  go_enter Tryd.func23, Tryd.ntmps23
  go_wp2_with fail
  refine (from_any A n c l _ hs hl (sl_code hs)).mono ?_
  rintro e w1 ⟨rfl, hs1, hb1⟩
  have sz1 := hs1.lt
  go_wp2_with fail
  refine (l10Draw_any w.heap.size A n c l 0 _ hn (by omega) hs1).mono ?_
  rintro e w2 ⟨⟨A0, n0, c0, L0, rfl, h0, own0, kn0⟩, hs2, hg2⟩
  have sz2 := hg2.size
  go_wp2_with fail
  refine (l10DrawStep_any w.heap.size A n c l _ _ hn (by omega) hs2).mono ?_
  rintro e w3 ⟨⟨x, rfl, hx⟩, hs3, hg3⟩
  have own0' := own0.only hg3 (by omega)
  have B3 := below_by (below_by hb1 hg2 (Nat.le_refl _)) hg3 (Nat.le_refl _)
  have sz3 := hg3.size
  go_wp2_with fail
  refine (l08DrawBudget_any w.heap.size A n c l _ _ hn (by omega) hs3).mono ?_
  rintro e w4 ⟨⟨y, rfl, hy⟩, hs4, hg4⟩
  have own1 := own0'.only hg4 (by omega)
  go_wp2_with fail
  (try simp only [Exit.inBlock, Exit.then])
  refine bodyPost_ret (results_tmp3 rfl _ _ _) rfl ?_
  exact ⟨⟨A0, n0, c0, L0, x, y, rfl, ⟨h0, own1.mono (by omega), kn0⟩, hx, hy⟩, below_by B3 hg4 (Nat.le_refl _)⟩
set_option maxRecDepth 100000 in
set_option maxHeartbeats 4000000 in
theorem drawEven_any (A : Option Addr) (n c : Nat) (l : Nat → Int) (w : World) (hn : n ≤ 1048576) (hs : Sl w A (n * 1) (ByteC l)) (hl : ∀ j, j < n → 0 ≤ l j ∧ l j ≤ 255) :
    Calls Tryd.prog 28 #[.slice A n c] w fun e w' => RetPL w w' e ∧ Below w.heap.size w w' := by
  go_enter Tryd.func28, Tryd.ntmps28
  go_wp2_with fail
  refine (from_any A n c l _ hs hl (sl_code hs)).mono ?_
  rintro e w1 ⟨rfl, hs1, hb1⟩
  have sz1 := hs1.lt
  go_wp2_with fail
  refine (l10Draw_any w.heap.size A n c l 0 _ hn (by omega) hs1).mono ?_
  rintro e w2 ⟨⟨A0, n0, c0, L0, rfl, h0, own0, kn0⟩, hs2, hg2⟩
  go_wp2_with fail
  go_ret
  exact ⟨⟨A0, n0, c0, L0, rfl, h0, own0.mono (by omega), kn0⟩, below_by hb1 hg2 (Nat.le_refl _)⟩
end Go.Proofs.YthjllledhcfnhaaDoor
