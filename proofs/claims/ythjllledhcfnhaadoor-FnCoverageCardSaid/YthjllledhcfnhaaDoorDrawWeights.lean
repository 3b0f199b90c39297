/- The drawn inputs of the laws of projectors. Conditions: the code is shorter than 2^20. -/
import Derived.Test.YthjllledhcfnhaaDoorDrawList
import Derived.OwnWalk
namespace Go.Proofs.YthjllledhcfnhaaDoor
open Go.RowKit Go.Lib Go.Ks
theorem sl_code {w : World} {A : Option Addr} {n : Nat} {l : Nat → Int} (hs : Sl w A (n * 1) (ByteC l)) : ∀ ad, A = some ad → 0 < n * 1 → ad.block < w.heap.size := fun ad e hm => by
  obtain ⟨b, off, e2, hb, _⟩ := hs hm
  rw [e] at e2
  injection e2 with e2
  rw [e2]
  exact hb
set_option maxRecDepth 100000 in
set_option maxHeartbeats 2000000 in
theorem drawWeights_any (A : Option Addr) (n c : Nat) (l : Nat → Int) (w : World) (hn : n ≤ 1048576) (hs : Sl w A (n * 1) (ByteC l)) (hl : ∀ j, j < n → 0 ≤ l j ∧ l j ≤ 255) :
    Calls Tryd.prog 18 #[.slice A n c] w fun e w' => (∃ (A0 : Option Addr) (n0 c0 : Nat) (L0 : Nat → ProjectorD) (x y : Int), e = .returned (.tuple #[.slice A0 n0 c0, .int .i64 x, .int .i64 y]) ∧ (n0 ≤ 7 ∧ Own w' w.heap.size 43 5 A0 n0 (ProjectorC L0) ∧ ∀ j, j < n0 → PrB (L0 j)) ∧ (-1 ≤ x ∧ x ≤ 360000) ∧ -1 ≤ y ∧ y ≤ 90001) ∧ Below w.heap.size w w' := by
  go_enter Tryd.func18, Tryd.ntmps18
  go_wp2_with fail
  refine (from_any A n c l _ hs hl (sl_code hs)).mono ?_
  rintro e w1 ⟨rfl, hs1, hb1⟩
  have sz1 := hs1.lt
  go_wp2_with fail
  refine (l10Draw_any w.heap.size A n c l 0 _ hn (by omega) hs1).mono ?_
  rintro e w2 ⟨⟨A0, n0, c0, L0, rfl, h0, own0, kn0⟩, hs2, hg2⟩
  have sz2 := hg2.size
  go_wp2_with fail
  refine (l10DrawSpot_any w.heap.size A n c l _ _ hn (by omega) hs2).mono ?_
  rintro e w3 ⟨⟨x, y, rfl, hx, hy⟩, hs3, hg3⟩
  have own0' := own0.only hg3 (by omega)
  go_wp2_with fail
  (try simp only [Exit.inBlock, Exit.then])
  refine bodyPost_ret (results_tmp3 rfl _ _ _) rfl ?_
  exact ⟨⟨A0, n0, c0, L0, x, y, rfl, ⟨h0, own0'.mono (by omega), kn0⟩, hx, hy⟩, below_by (below_by hb1 hg2 (Nat.le_refl _)) hg3 (Nat.le_refl _)⟩
end Go.Proofs.YthjllledhcfnhaaDoor
