/- The law file's own helpers over slices of pairs: comparing, marking. Conditions: the slices read as pairs. -/
import Derived.Test.YtkjnpnijplnoaaaDoorDark
namespace Go.Proofs.YtkjnpnijplnoaaaDoor
open Go.RowKit Go.Lib Go.Ks
def pairF (a b : Int) : Nat → Int | 0 => a | _ => b
theorem pair_arr (a b : Int) : (#[.int .i64 a, .int .i64 b] : Array Value) = arr 2 (IntC (pairF a b)) := by
  apply Array.ext_getElem?
  intro j
  rw [arr_get?]
  match j with
  | 0 => rfl
  | 1 => rfl
  | j + 2 => rw [if_neg (by omega)]; exact Array.getElem?_eq_none (by simp)
theorem PrAt.pair {w : World} {A : Option Addr} {n : Nat} {g : Nat → Nat} {x y : Nat → Int} (h : PrAt w A n g x y) {k : Nat} (hk : k < n) : Sl w (some ⟨g k, 0, none⟩) (2 * 1) (IntC (pairF (x k) (y k))) := fun _ =>
  ⟨g k, 0, rfl, (h.2 k hk).1, fun j hj => by
    match j, hj with
    | 0, _ => exact (h.2 k hk).2.1
    | 1, _ => exact (h.2 k hk).2.2⟩
/-- pairs below a block number -/
def PairsU (w : World) (base N : Nat) (v : Value) (n : Nat) (x y : Nat → Int) : Prop := ∃ g, PairsG w base v n x y g ∧ (∀ k, v.ownBlock = some k → k < N) ∧ ∀ j, j < n → g j < N
section
variable {w w' : World} {base N n : Nat} {v : Value} {x y : Nat → Int}
theorem PairsU.of (h : Pairs w base v n x y) : PairsU w base w.heap.size v n x y := by
  obtain ⟨g, hg⟩ := h
  exact ⟨g, hg, fun k hk => (Row.lt hg.1 k hk).2, fun j hj => (hg.2 j hj).2.lt⟩
theorem PairsU.pairs (h : PairsU w base N v n x y) : Pairs w base v n x y := by
  obtain ⟨g, hg, _⟩ := h
  exact ⟨g, hg⟩
theorem PairsU.below (h : PairsU w base N v n x y) (hb : Below w.heap.size w w') : PairsU w' base N v n x y := by
  obtain ⟨g, hg, h1, h2⟩ := h
  exact ⟨g, hg.below hb, h1, h2⟩
theorem PairsU.belowN {B : Nat} (h : PairsU w base N v n x y) (hb : Below B w w') (hB : N ≤ B) : PairsU w' base N v n x y := by
  obtain ⟨g, ⟨hr, hg⟩, h1, h2⟩ := h
  refine ⟨g, ⟨⟨hr.1, ?_⟩, fun j hj => ⟨(hg j hj).1, (hg j hj).2.below hb (Nat.lt_of_lt_of_le (h2 j hj) hB)⟩⟩, h1, h2⟩
  rcases hr.2 with q | ⟨b, cap, cur, hv, hbb, hh, r⟩
  · exact .inl q
  · exact .inr ⟨b, cap, cur, hv, hbb, (hb.block b (Nat.lt_of_lt_of_le (h1 b (by rw [hv]; rfl)) hB)).trans hh, r⟩
theorem PairsU.kept_own {b e size m : Nat} {A : Option Addr} {f : Nat → Value} (h : PairsU w base N v n x y) (o : Own w b e size A m f) (h1 : e ≠ 32) (h2 : e ≠ 2) (hg : w.grownBy w' (blockOf A)) : PairsU w' base N v n x y := by
  obtain ⟨g, ⟨hr, hp⟩, h3, h4⟩ := h
  have far : ∀ {k : Nat} {t : TypeId} {cs : Array Value}, Blk w k t cs → e ≠ t → blockOf A ≠ some k := fun {k t cs} hk ht he => by
    rcases o with ⟨rfl, _⟩ | ⟨B, m', f', rfl, _, hB, _⟩
    · cases he
    · have : B = k := by simpa [blockOf] using he
      subst this
      unfold Blk at hk hB
      rw [hB] at hk
      injection hk with hk
      injection hk with _ hk _
      exact ht hk
  refine ⟨g, ⟨hr.kept hg (fun k hk => ?_), fun j hj => ⟨(hp j hj).1, blk_grown (hp j hj).2 hg (far (hp j hj).2 h2)⟩⟩, h3, h4⟩
  rcases hr.2 with ⟨q, _⟩ | ⟨b', cap, cur, hv, hbb, hh, r⟩
  · rw [q] at hk; cases hk
  · rw [hv] at hk
    have : b' = k := by simpa [Value.ownBlock] using hk
    subst this
    exact far hh h1
end
set_option maxHeartbeats 800000 in
theorem eqInt64SS_yes (A A' : Option Addr) (n c c' : Nat) (g g' : Nat → Nat) (x y : Nat → Int) (w : World) (hn : n ≤ 1048576) (hs : PrAt w A n g x y) (hs' : PrAt w A' n g' x y) :
    Calls Tryd.prog 41 #[.slice A n c, .slice A' n c'] w fun e w' => e = .returned (.bool true) ∧ Below w.heap.size w w' := by
  have hn' : (n : Int) ≤ 1048576 := by omega
  go_enter Tryd.func41, Tryd.ntmps41
  go_wp2_with fail
  go_loopw [5] (fun i wr => ∃ k : Nat, k ≤ n ∧ i = .int .i64 k ∧ Below w.heap.size w wr) (fun i _ => n - (intOf i).toNat)
  case atStart => exact ⟨0, Nat.zero_le _, rfl, Below.refl _ _⟩
  case round =>
    obtain ⟨k, hk, rfl, hbl⟩ := hrel
    by_cases hlt : k < n
    · have h1 := hs.below hbl
      have h2 := hs'.below hbl
      obtain ⟨b, off, rfl, hb, hc⟩ := h1.1 (by omega)
      obtain ⟨b', off', rfl, hb', hc'⟩ := h2.1 (by omega)
      have p1 := Lib.hid (h1.pair hlt)
      have p2 := Lib.hid (h2.pair hlt)
      have d0 := hc k hlt
      have d1 := hc' k hlt
      clear hc hc' h1 h2
      go_wp2_with fail
      refine wp_region_ext (by kernel_rfl) (by kernel_rfl) ?_
      repeat (go_big_quiet_step ((go_at_call 23; exact quiet_ext (eqInt64S_yes _ _ 2 _ _ (pairF (x k) (y k)) _ (by omega) (p1.out.below (ExtW.below _)) (p2.out.below (ExtW.below _))))))
      refine wpQuiet_nil ?_
      intro e1
      have hb1 := e1.below
      go_wp2_with fail
      go_roundw
      case rel => exact ⟨k + 1, by omega, by go_num, hbl.trans (hb1.mono hbl.size)⟩
      case measure => simp [intOf]; omega
    · go_wp2_with fail
      go_ret
      exact ⟨rfl, hbl⟩
theorem eqPairs_yes {b b' N N' : Nat} (A A' : Option Addr) (n c c' : Nat) (x y : Nat → Int) (w : World) (hn : n ≤ 1048576) (hs : PairsU w b N (.slice A n c) n x y) (hs' : PairsU w b' N' (.slice A' n c') n x y) :
    Calls Tryd.prog 41 #[.slice A n c, .slice A' n c'] w fun e w' => e = .returned (.bool true) ∧ Below w.heap.size w w' := by
  obtain ⟨g, hg, _⟩ := hs
  obtain ⟨g', hg', _⟩ := hs'
  exact eqInt64SS_yes A A' n c c' g g' x y w hn hg.pr hg'.pr
/-- the numbers of the marks -/
def mkX (k0 : Int) (k : Nat) (x : Nat → Int) (j : Nat) : Int := if j < k then k0 + (j : Int) * 2 else x j
def mkY (k0 : Int) (k : Nat) (y : Nat → Int) (j : Nat) : Int := if j < k then k0 + (j : Int) * 2 + 1 else y j
set_option maxHeartbeats 2000000 in
theorem markPairs_any {base N : Nat} (A : Option Addr) (n c : Nat) (k0 : Int) (x y : Nat → Int) (w : World) (hn : n ≤ 1048576) (hk0 : 0 ≤ k0) (hk1 : k0 ≤ 100000000) (hB : base ≤ w.heap.size) (hu : PairsU w base N (.slice A n c) n x y) :
    Calls Tryd.prog 42 #[.slice A n c, .int .i64 k0] w fun e w' => e = .returned (.int .i64 (k0 + (n : Int) * 2)) ∧ Below base w w' ∧ PairsU w' base w'.heap.size (.slice A n c) n (mkX k0 n x) (mkY k0 n y) := by
  have hn' : (n : Int) ≤ 1048576 := by omega
  obtain ⟨g, hg0, _⟩ := hu
  have HG := Lib.hid hg0.2
  go_enter Tryd.func42, Tryd.ntmps42
  go_wp2_with fail
  go_loopw [1, 5] (fun t i wr => ∃ k : Nat, k ≤ n ∧ i = .int .i64 k ∧ t = .int .i64 (k0 + (k : Int) * 2) ∧ Below base w wr ∧ PairsG wr base (.slice A n c) n (mkX k0 k x) (mkY k0 k y) g) (fun _ i _ => n - (intOf i).toNat)
  case atStart => exact ⟨0, Nat.zero_le _, rfl, ret_num (by omega), Below.refl _ _, hg0⟩
  case round =>
    obtain ⟨k, hk, rfl, rfl, hbl, hp⟩ := hrel
    by_cases hlt : k < n
    · have sz : w.heap.size ≤ wr.heap.size := hbl.size
      have h1 := hp.pr
      obtain ⟨b, off, rfl, hb, hc⟩ := h1.1 (by omega)
      have d0 := hc k hlt
      have PB : Blk wr (g k) 2 (arr 2 (IntC (pairF (mkX k0 k x k) (mkY k0 k y k)))) := by rw [← pair_arr]; exact (hp.2 k hlt).2
      clear hc h1
      go_wp2_with fail
      refine (markInt64S_blk (g k) 2 _ 2 _ _ _ (by omega) (by omega) (by omega) (by omega) PB).mono ?_
      rintro e w5 ⟨rfl, hgr, hb5⟩
      have hbl5 : Below base w w5 := hbl.grown hgr (Nat.le_trans hB sz) (fun j hj => by injection hj with hj; have := (HG.out k hlt).1.1; omega)
      have hp5 : PairsG w5 base (.slice (some ⟨b, off, none⟩) n c) n (mkX k0 (k + 1) x) (mkY k0 (k + 1) y) g := by
        refine ⟨hp.1.kept hgr (fun j hj he => Row.apart hp.1 PB (by decide) (by rw [hj]; exact he.symm ▸ rfl)), fun j hj => ⟨(HG.out j hj).1, ?_⟩⟩
        by_cases e : j = k
        · subst e
          have hX : mkX k0 (j + 1) x j = k0 + (j : Int) * 2 := if_pos (by omega)
          have hY : mkY k0 (j + 1) y j = k0 + (j : Int) * 2 + 1 := if_pos (by omega)
          rw [hX, hY]
          have h6 := hb5
          rw [show arr 2 (mk (k0 + (j : Int) * 2) (2 * 1) (IntC (pairF (mkX k0 j x j) (mkY k0 j y j)))) = arr 2 (IntC (pairF (k0 + (j : Int) * 2) (k0 + (j : Int) * 2 + 1))) from arr_ext (fun i hi => by
            match i, hi with
            | 0, _ => show Value.int .i64 (k0 + (j : Int) * 2 + 0) = _; rw [Int.add_zero]; rfl
            | 1, _ => rfl), ← pair_arr] at h6
          exact h6
        · have hX : mkX k0 (k + 1) x j = mkX k0 k x j := by
            unfold mkX
            by_cases q : j < k
            · rw [if_pos q, if_pos (by omega)]
            · rw [if_neg q, if_neg (by omega)]
          have hY : mkY k0 (k + 1) y j = mkY k0 k y j := by
            unfold mkY
            by_cases q : j < k
            · rw [if_pos q, if_pos (by omega)]
            · rw [if_neg q, if_neg (by omega)]
          rw [hX, hY]
          refine blk_grown (hp.2 j hj).2 hgr (fun he => ?_)
          injection he with he
          rcases Nat.lt_or_ge j k with q | q
          · exact (HG.out k hlt).1.2 j q he.symm
          · exact (HG.out j hj).1.2 k (by omega) he
      clear hgr hb5
      go_wp2_with fail
      go_roundw
      case rel => exact ⟨k + 1, by omega, by go_num, ret_num (by omega), hbl5, hp5⟩
      case measure => simp [intOf]; omega
    · obtain rfl : k = n := by omega
      go_wp2_with fail
      go_ret
      exact ⟨rfl, hbl, PairsU.of ⟨g, hp⟩⟩
set_option maxHeartbeats 2000000 in
theorem heldPairs_any {base N : Nat} (A : Option Addr) (n c : Nat) (k0 : Int) (x y : Nat → Int) (w : World) (hn : n ≤ 1048576) (hk0 : 0 ≤ k0) (hk1 : k0 ≤ 100000000) (hu : PairsU w base N (.slice A n c) n (mkX k0 n x) (mkY k0 n y)) :
    Calls Tryd.prog 43 #[.slice A n c, .int .i64 k0] w fun e w' => e = .returned (.int .i64 (k0 + (n : Int) * 2)) ∧ Below w.heap.size w w' := by
  have hn' : (n : Int) ≤ 1048576 := by omega
  obtain ⟨g, hg0, _⟩ := hu
  have hs := hg0.pr
  go_enter Tryd.func43, Tryd.ntmps43
  go_wp2_with fail
  go_loopw [1, 5] (fun t i wr => ∃ k : Nat, k ≤ n ∧ i = .int .i64 k ∧ t = .int .i64 (k0 + (k : Int) * 2) ∧ Below w.heap.size w wr) (fun _ i _ => n - (intOf i).toNat)
  case atStart => exact ⟨0, Nat.zero_le _, rfl, ret_num (by omega), Below.refl _ _⟩
  case round =>
    obtain ⟨k, hk, rfl, rfl, hbl⟩ := hrel
    by_cases hlt : k < n
    · have h1 := hs.below hbl
      have P1 : Sl wr (some ⟨g k, 0, none⟩) (2 * 1) (mk (k0 + (k : Int) * 2) (2 * 1) (IntC (pairF 0 0))) := (h1.pair hlt).congr (fun j hj => by
        match j, hj with
        | 0, _ => show Value.int .i64 (mkX k0 n x k) = .int .i64 (k0 + (k : Int) * 2 + 0); unfold mkX; rw [if_pos hlt, Int.add_zero]
        | 1, _ => show Value.int .i64 (mkY k0 n y k) = .int .i64 (k0 + (k : Int) * 2 + 1); unfold mkY; rw [if_pos hlt])
      have PH := Lib.hid P1
      obtain ⟨b, off, rfl, hb, hc⟩ := h1.1 (by omega)
      have d0 := hc k hlt
      clear hc h1 P1
      go_wp2_with fail
      refine (heldInt64S_any _ 2 _ _ _ _ (by omega) (by omega) (by omega) PH.out).mono ?_
      rintro e w5 ⟨rfl, hb5⟩
      have hbl5 := hbl.trans (hb5.mono hbl.size)
      go_wp2_with fail
      go_roundw
      case rel => exact ⟨k + 1, by omega, by go_num, ret_num (by omega), hbl5⟩
      case measure => simp [intOf]; omega
    · obtain rfl : k = n := by omega
      go_wp2_with fail
      go_ret
      exact ⟨rfl, hbl⟩
end Go.Proofs.YtkjnpnijplnoaaaDoor
