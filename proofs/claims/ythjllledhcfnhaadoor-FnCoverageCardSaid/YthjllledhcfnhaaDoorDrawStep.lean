/- A drawn step of the spots. Conditions: the code is shorter than 2^20. -/
import Derived.Test.YthjllledhcfnhaaDoorDrawSt
namespace Go.Proofs.YthjllledhcfnhaaDoor
open Go.RowKit Go.Lib Go.Ks
set_option maxRecDepth 100000 in
set_option maxHeartbeats 4000000 in
theorem l10DrawStep_any (s : Nat) (A : Option Addr) (n c : Nat) (l : Nat → Int) (k : Nat) (w : World) (hn : n ≤ 1048576) (hk : k ≤ 890000) (h : Src w s A n c l k) :
    Calls Tryd.prog 80 #[.pointer (some ⟨s, 0, none⟩)] w fun e w' => (∃ x : Int, e = .returned (.int .i64 x) ∧ 9999 ≤ x ∧ x ≤ 90001) ∧ Src w' s A n c l (k + 2) ∧ w.grownBy w' (some s) := by
  have hs := h.lt
  go_enter Tryd.func80, Tryd.ntmps80
  go_wp2_with fail
  generalize hV : World.alloc w _ = w1
  have hw1 := bel_alloc hV
  have yw1 : Blk w1 w.heap.size 2 #[.int .i64 30000, .int .i64 45000, .int .i64 90000, .int .i64 40000, .int .i64 60000, .int .i64 25000, .int .i64 10000, .int .i64 9999, .int .i64 90001] := cells_alloc hV
  clear hV
  refine (among_any s A n c l k w.heap.size 9 9 (fun z => 9999 ≤ z ∧ z ≤ 90001) _ hn (by omega) (by decide) ⟨yw1.lt, by omega⟩ ?_ (h.below hw1)).mono ?_
  · intro j hj
    match j, hj with
    | 0, _ => exact ⟨_, yw1.cell 0, by decide⟩
    | 1, _ => exact ⟨_, yw1.cell 1, by decide⟩
    | 2, _ => exact ⟨_, yw1.cell 2, by decide⟩
    | 3, _ => exact ⟨_, yw1.cell 3, by decide⟩
    | 4, _ => exact ⟨_, yw1.cell 4, by decide⟩
    | 5, _ => exact ⟨_, yw1.cell 5, by decide⟩
    | 6, _ => exact ⟨_, yw1.cell 6, by decide⟩
    | 7, _ => exact ⟨_, yw1.cell 7, by decide⟩
    | 8, _ => exact ⟨_, yw1.cell 8, by decide⟩
  rintro e w2 ⟨⟨x, rfl, x1, x2⟩, hs2, hg2⟩
  go_wp2_with fail
  go_ret
  exact ⟨⟨x, rfl, x1, x2⟩, hs2, (only_of_below hw1 (some s)).trans hg2⟩
end Go.Proofs.YthjllledhcfnhaaDoor
