/- The source of numbers of the drawn inputs: what it hands out lies in its range; nothing but its own block changes. Conditions: fewer than 2^40 bytes are read. -/
import Derived.Test.YthjllledhcfnhaaGreatDoorBase
import Derived.Test.YthjllledhcfnhaaGreatDoorSmall
import Derived.Laws.Bits64
import Derived.Laws.BitsLemmas
import Derived.BigQuiet
namespace Go.Proofs.YthjllledhcfnhaaGreatDoor
open Go.RowKit Go.Lib Go.Ks
/-- bytes of an argument -/
def ByteC (l : Nat → Int) : Nat → Value := fun j => .int .u8 (l j)
/-- the source at block s; fewer than k bytes are read -/
structure Src (w : World) (s : Nat) (A : Option Addr) (n c : Nat) (l : Nat → Int) (k : Nat) : Prop where
  ex : ∃ (a : Nat) (z : Int), a ≤ k ∧ 0 ≤ z ∧ z ≤ 18446744073709551615 ∧ Blk w s 105 #[.slice A n c, .int .i64 (a : Int), .int .u64 z]
  code : Sl w A (n * 1) (ByteC l)
  far : ∀ ad, A = some ad → 0 < n * 1 → ad.block ≠ s
  byte : ∀ j, j < n → 0 ≤ l j ∧ l j ≤ 255
theorem Src.lt {w : World} {s : Nat} {A : Option Addr} {n c : Nat} {l : Nat → Int} {k : Nat} (h : Src w s A n c l k) : s < w.heap.size := by
  obtain ⟨a, z, _, _, _, h⟩ := h.ex
  exact h.lt
theorem Src.more {w : World} {s : Nat} {A : Option Addr} {n c : Nat} {l : Nat → Int} {k k' : Nat} (h : Src w s A n c l k) (hk : k ≤ k') : Src w s A n c l k' := by
  obtain ⟨⟨a, z, h0, h1⟩, h2, h3, h4⟩ := h
  exact ⟨⟨a, z, Nat.le_trans h0 hk, h1⟩, h2, h3, h4⟩
/-- what leaves the source's block and the code as they were, leaves the source as it was -/
theorem Src.grown {w w' : World} {s : Nat} {A : Option Addr} {n c : Nat} {l : Nat → Int} {k : Nat} {row : Option Nat} (h : Src w s A n c l k) (hg : w.grownBy w' row) (hr : ∀ b, row = some b → b ≠ s ∧ ∀ ad, A = some ad → 0 < n * 1 → ad.block ≠ b) : Src w' s A n c l k := by
  obtain ⟨⟨a, z, h0, h1, h2, hb⟩, h3, h4, h5⟩ := h
  refine ⟨⟨a, z, h0, h1, h2, (hg.block s hb.lt (fun e => (hr s e.symm).1 rfl)).trans hb⟩, ?_, h4, h5⟩
  intro hm
  obtain ⟨b, off, rfl, hlt, hc⟩ := h3 hm
  exact ⟨b, off, rfl, Nat.lt_of_lt_of_le hlt hg.size, fun j hj => (World.cell?_of_block (a := ⟨b, off + j, none⟩) (hg.block b hlt (fun e => (hr b e.symm).2 _ rfl hm rfl))).trans (hc j hj)⟩
theorem Src.below {w w' : World} {s : Nat} {A : Option Addr} {n c : Nat} {l : Nat → Int} {k : Nat} (h : Src w s A n c l k) (hb : Below w.heap.size w w') : Src w' s A n c l k :=
  h.grown (only_of_below hb none) (fun b e => by cases e)
theorem wrap_u64_bd (x : Int) : 0 ≤ IntKind.u64.wrap x ∧ IntKind.u64.wrap x ≤ 18446744073709551615 := by rw [IntKind.wrap_u64]; omega
theorem and255 {x : Int} (h0 : 0 ≤ x) (h1 : x ≤ 18446744073709551615) : bits .and .u64 x 255 = x % 256 :=
  bits_mask .u64 64 (by decide) (fun n a b => by rw [IntKind.wrap_u64]; omega) 8 (by decide) x h0 (by omega)
theorem last_bits {y : Int} (h : 0 ≤ y ∧ y ≤ 18446744073709551615) : 0 ≤ wrap64 (bits .and .u64 (y / 1099511627776) 255) ∧ wrap64 (bits .and .u64 (y / 1099511627776) 255) ≤ 255 := by
  rw [and255 (by omega) (by omega)]
  unfold wrap64
  omega
theorem src_after {w : World} {s : Nat} {A : Option Addr} {n c a k : Nat} {l : Nat → Int} {z z' : Int} (h : Sl w A (n * 1) (ByteC l) ∧ (∀ ad, A = some ad → 0 < n * 1 → ad.block ≠ s) ∧ ∀ j, j < n → 0 ≤ l j ∧ l j ≤ 255)
    (hb : Blk w s 105 #[.slice A n c, .int .i64 (a : Int), .int .u64 z]) (hk : a ≤ k) (hz : 0 ≤ z' ∧ z' ≤ 18446744073709551615) (m m' : Nat) :
    Src ((((w.drewN m).setCell ⟨s, 1, none⟩ (.int .i64 ((a : Int) + 1))).setCell ⟨s, 2, none⟩ (.int .u64 z')).drewN m') s A n c l (k + 1) ∧ w.grownBy ((((w.drewN m).setCell ⟨s, 1, none⟩ (.int .i64 ((a : Int) + 1))).setCell ⟨s, 2, none⟩ (.int .u64 z')).drewN m') (some s) := by
  have g0 : w.grownBy (w.drewN m) (some s) := ⟨rfl, rfl, rfl, Nat.le_refl _, fun _ _ _ => rfl⟩
  have g1 := only_setCell (only_setCell g0 (p := ⟨s, 1, none⟩) (.inl rfl) (.int .i64 ((a : Int) + 1))) (p := ⟨s, 2, none⟩) (.inl rfl) (.int .u64 z')
  have g2 : w.grownBy ((((w.drewN m).setCell ⟨s, 1, none⟩ (.int .i64 ((a : Int) + 1))).setCell ⟨s, 2, none⟩ (.int .u64 z')).drewN m') (some s) := ⟨g1.os, g1.tape, g1.output, g1.size, g1.block⟩
  have hb' : Blk (w.drewN m) s 105 #[.slice A n c, .int .i64 (a : Int), .int .u64 z] := hb
  have k1 := (hb'.set_ 1 (.int .i64 ((a : Int) + 1))).set_ 2 (.int .u64 z')
  refine ⟨⟨⟨a + 1, z', by omega, hz.1, hz.2, ?_⟩, h.1.only g2 h.2.1, h.2.1, h.2.2⟩, g2⟩
  exact k1
set_option maxRecDepth 100000 in
set_option maxHeartbeats 2000000 in
theorem next_any (s : Nat) (A : Option Addr) (n c : Nat) (l : Nat → Int) (k : Nat) (w : World) (hn : n ≤ 1048576) (hk : k ≤ 1099511627776) (h : Src w s A n c l k) :
    Calls Tryz.prog 105 #[.pointer (some ⟨s, 0, none⟩)] w fun e w' => (∃ x : Int, e = .returned (.int .i64 x) ∧ 0 ≤ x ∧ x ≤ 255) ∧ Src w' s A n c l (k + 1) ∧ w.grownBy w' (some s) := by
  obtain ⟨⟨a, z, h0, h1, h2, hb⟩, h3, h4, h5⟩ := h
  have hn' : (n : Int) ≤ 1048576 := by omega
  have hk' : (a : Int) ≤ 1099511627776 := by omega
  have c0 := hb.cell 0
  have c1 := hb.cell 1
  have c2 := hb.cell 2
  simp at c0 c1 c2
  have cl := hb.lt
  have og0 := hb.frozen 0
  have og1 := hb.frozen 1
  have og2 := hb.frozen 2
  by_cases q : a < n
  · have q' : (a : Int) < (n : Int) := by omega
    obtain ⟨b, off, rfl, hlt, hc⟩ := h3 (by omega)
    have hbs := h4 _ rfl (by omega)
    have d0 : w.cell? ⟨b, off + a, none⟩ = some (.int .u8 (l a)) := hc a (by omega)
    obtain ⟨b1, b2⟩ := h5 a q
    clear hc
    go_enter Tryz.func105, Tryz.ntmps105
    go_wp2_with fail
    go_quiet (fail)
    go_wp2_with fail
    go_quiet (fail)
    go_wp2_with fail
    go_quiet (fail)
    go_wp2_with fail
    go_ret
    exact ⟨⟨_, rfl, b1, b2⟩, src_after ⟨h3, h4, h5⟩ hb h0 (wrap_u64_bd _) _ _⟩
  · have q' : ¬ (a : Int) < (n : Int) := by omega
    have q2 : ¬ (a : Int) + 1 ≤ (n : Int) := by omega
    go_enter Tryz.func105, Tryz.ntmps105
    go_wp2_with fail
    go_quiet (fail)
    go_wp2_with fail
    go_quiet (fail)
    go_wp2_with fail
    go_ret
    exact ⟨⟨_, rfl, (last_bits (wrap_u64_bd _)).1, (last_bits (wrap_u64_bd _)).2⟩, src_after ⟨h3, h4, h5⟩ hb h0 (wrap_u64_bd _) _ _⟩
set_option maxRecDepth 100000 in
set_option maxHeartbeats 2000000 in
theorem pick_any (s : Nat) (A : Option Addr) (n c : Nat) (l : Nat → Int) (k : Nat) (m : Int) (w : World) (hn : n ≤ 1048576) (hk : k ≤ 1099511627000) (hm : 1 ≤ m ∧ m ≤ 4611686018427387904) (h : Src w s A n c l k) :
    Calls Tryz.prog 72 #[.pointer (some ⟨s, 0, none⟩), .int .i64 m] w fun e w' => (∃ x : Int, e = .returned (.int .i64 x) ∧ 0 ≤ x ∧ x < m) ∧ Src w' s A n c l (k + 2) ∧ w.grownBy w' (some s) := by
  obtain ⟨m1, m2⟩ := hm
  have HK := Lib.hid hk
  clear hk
  by_cases q : m ≤ 1
  · go_enter Tryz.func72, Tryz.ntmps72
    go_wp2_with fail
    go_ret
    exact ⟨⟨0, rfl, by omega, by omega⟩, h.more (by omega), World.grownBy.refl _ _⟩
  · go_enter Tryz.func72, Tryz.ntmps72
    go_wp2_with fail
    refine (next_any s A n c l k _ hn (by have := HK.out; omega) h).mono ?_
    rintro e w1 ⟨⟨x, rfl, x1, x2⟩, hs1, hg1⟩
    by_cases q2 : 200 < m
    · go_wp2_with fail
      refine (next_any s A n c l (k + 1) _ hn (by have := HK.out; omega) hs1).mono ?_
      rintro e w2 ⟨⟨y, rfl, y1, y2⟩, hs2, hg2⟩
      go_wp2_with fail
      go_ret
      exact ⟨⟨_, rfl, Int.emod_nonneg _ (by omega), Int.emod_lt_of_pos _ (by omega)⟩, hs2, hg1.trans hg2⟩
    · go_wp2_with fail
      go_ret
      exact ⟨⟨_, rfl, Int.emod_nonneg _ (by omega), Int.emod_lt_of_pos _ (by omega)⟩, hs1.more (by omega), hg1⟩
set_option maxRecDepth 100000 in
set_option maxHeartbeats 2000000 in
theorem among_any (s : Nat) (A : Option Addr) (n c : Nat) (l : Nat → Int) (k g m cm : Nat) (Q : Int → Prop) (w : World) (hn : n ≤ 1048576) (hk : k ≤ 1099511627000) (hm : 1 ≤ m ∧ m ≤ 1048576) (hg : g < w.heap.size ∧ g ≠ s)
    (hv : ∀ j, j < m → ∃ x : Int, w.cell? ⟨g, j, none⟩ = some (.int .i64 x) ∧ Q x) (h : Src w s A n c l k) :
    Calls Tryz.prog 73 #[.pointer (some ⟨s, 0, none⟩), .slice (some ⟨g, 0, none⟩) m cm] w fun e w' => (∃ x : Int, e = .returned (.int .i64 x) ∧ Q x) ∧ Src w' s A n c l (k + 2) ∧ w.grownBy w' (some s) := by
  obtain ⟨m1, m2⟩ := hm
  have HV := Lib.hid hv
  have hk' := Lib.hid hk
  clear hv hk
  go_enter Tryz.func73, Tryz.ntmps73
  go_wp2_with fail
  refine (pick_any s A n c l k _ _ hn hk'.out (by omega) h).mono ?_
  rintro e w1 ⟨⟨x, rfl, x1, x2⟩, hs1, hg1⟩
  obtain ⟨j, rfl⟩ := Int.eq_ofNat_of_zero_le x1
  obtain ⟨y, hc, hq⟩ := HV.out j (by omega)
  have hcj : w1.cell? ⟨g, j, none⟩ = some (.int .i64 y) := hg1.cell hc (fun e => by injection e with e; exact hg.2 e)
  go_wp2_with fail
  go_ret
  exact ⟨⟨y, rfl, hq⟩, hs1, hg1⟩
theorem from_any (A : Option Addr) (n c : Nat) (l : Nat → Int) (w : World) (hs : Sl w A (n * 1) (ByteC l)) (hl : ∀ j, j < n → 0 ≤ l j ∧ l j ≤ 255) (ha : ∀ ad, A = some ad → 0 < n * 1 → ad.block < w.heap.size) :
    Calls Tryz.prog 32 #[.slice A n c] w fun e w' => e = .returned (.pointer (some ⟨w.heap.size, 0, none⟩)) ∧ Src w' w.heap.size A n c l 0 ∧ Below w.heap.size w w' := by
  go_enter Tryz.func32, Tryz.ntmps32
  go_wp2_with fail
  generalize hV : World.alloc _ _ = w1
  have h1 : Below w.heap.size w w1 := by rw [← hV]; exact (Below.refl _ _).alloc (Nat.le_refl _) _
  have k1 : Blk w1 w.heap.size 105 #[.slice A n c, .int .i64 0, .int .u64 0] := by rw [← hV]; exact Blk.new w _ _
  clear hV
  go_ret
  exact ⟨rfl, ⟨⟨0, 0, Nat.le_refl _, Int.le_refl _, by decide, k1⟩, hs.below h1, fun ad e hm => by have := ha ad e hm; omega, hl⟩, h1⟩
end Go.Proofs.YthjllledhcfnhaaGreatDoor
