/- The search for the fewest projectors: what lights all, and the next choice. Conditions: valid projectors; the variable sines holds its table. -/
import Derived.Test.YthjllledhcfnhaaDoorDark
namespace Go.Ks
/-- the values of a choice -/
def chF (ch : List Nat) : Nat → Int := fun j => ((ch.getD j 0 : Nat) : Int)
/-- some of the first q of a choice reaches a direction -/
def litTo (l : Nat → ProjectorD) (ch : List Nat) (x y : Int) : Nat → Bool
  | 0 => false
  | q + 1 => litTo l ch x y q || decide (0 < rawP (l (ch.getD q 0)) x y)
/-- a choice lights the first k spots -/
def litAll (l : Nat → ProjectorD) (ch : List Nat) (x y : Nat → Int) : Nat → Bool
  | 0 => true
  | k + 1 => litAll l ch x y k && litTo l ch (x k) (y k) ch.length
theorem litAll_false {l : Nat → ProjectorD} {ch : List Nat} {x y : Nat → Int} {k : Nat} (h : litTo l ch (x k) (y k) ch.length = false) : ∀ d, litAll l ch x y (k + 1 + d) = false
  | 0 => by show (litAll l ch x y k && litTo l ch (x k) (y k) ch.length) = false; rw [h]; simp
  | d + 1 => by
    show (litAll l ch x y (k + 1 + d) && litTo l ch (x (k + 1 + d)) (y (k + 1 + d)) ch.length) = false
    rw [litAll_false h d]; rfl
end Go.Ks
namespace Go.Proofs.YthjllledhcfnhaaDoor
open Go.RowKit Go.Lib Go.Ks
set_option maxRecDepth 100000 in
set_option maxHeartbeats 8000000 in
theorem lightsAll_any (A : Option Addr) (n c : Nat) (l : Nat → ProjectorD) (A2 : Option Addr) (c2 : Nat) (ch : List Nat) (A3 : Option Addr) (N c3 : Nat) (g : Nat → Nat) (x y : Nat → Int) (w : World)
    (hn : n ≤ 6) (hs : Sl w A (n * 5) (ProjectorC l)) (hp : ∀ k, k < n → projB (l k) = true) (hm : ch.length ≤ 6) (hch : ∀ q, q < ch.length → ch.getD q 0 < n) (hs2 : Sl w A2 (ch.length * 1) (IntC (chF ch))) (hN : N ≤ 360) (hpr : PrAt w A3 N g x y)
    (hx : ∀ k, k < N → I64 (x k) ∧ I64 (y k)) (hT : Tab w) :
    Calls Tryd.prog 68 #[.slice A n c, .slice A2 ch.length c2, .slice A3 N c3] w fun e w' => e = .returned (.bool (litAll l ch x y N)) ∧ Below w.heap.size w w' := by
  obtain ⟨m, hmm⟩ : ∃ m, ch.length = m := ⟨_, rfl⟩
  rw [hmm] at hm hch hs2 ⊢
  have HM := Lib.hid hmm
  have hn6 : (n : Int) ≤ 6 := by omega
  have hm6 : (m : Int) ≤ 6 := by omega
  have hN6 : (N : Int) ≤ 360 := by omega
  have HXY := Lib.hid hx
  have HT := Lib.hid hT
  have HPR := Lib.hid hpr
  have HCH := Lib.hid hch
  have HP := Lib.hid hp
  clear hx hT hpr hch hp hmm
  go_enter Tryd.func68, Tryd.ntmps68
  go_wp2_with fail
  go_loopw [14, 8, 9, 11] (fun i _ _ _ wr => ∃ k : Nat, k ≤ N ∧ i = .int .i64 (k : Int) ∧ litAll l ch x y k = true ∧ Below w.heap.size w wr) (fun i _ _ _ _ => N - (intOf i).toNat)
  case atStart => exact ⟨0, Nat.zero_le _, rfl, rfl, Below.refl _ _⟩
  case round =>
    obtain ⟨k, hk, rfl, hlit, hbl⟩ := hrel
    have HLIT := Lib.hid hlit
    clear hlit
    by_cases hlt : k < N
    · have hp2 := HPR.out.below hbl
      obtain ⟨bb, off, rfl, hbb, hcc⟩ := hp2.1 (by omega)
      have PA := Lib.hid (hp2.2 k hlt)
      have c0 := hcc k hlt
      have HXK := Lib.hid (HXY.out k hlt)
      clear hcc hp2
      obtain ⟨X, hX⟩ : ∃ X, x k = X := ⟨_, rfl⟩
      obtain ⟨Y, hY⟩ : ∃ Y, y k = Y := ⟨_, rfl⟩
      have HEX := Lib.hid (And.intro hX hY)
      rw [hX, hY] at PA HXK
      clear hX hY
      obtain ⟨gk, hgk⟩ : ∃ G, g k = G := ⟨_, rfl⟩
      simp only [hgk] at PA c0
      clear hgk
      go_wp2_with fail
      obtain ⟨wo, hwo⟩ : ∃ q : World, q = wr := ⟨_, rfl⟩
      subst hwo
      go_loopw [20, 9, 11] (fun i v _ wr2 => ∃ q : Nat, q ≤ m ∧ i = .int .i64 (q : Int) ∧ v = .bool (litTo l ch X Y q) ∧ Below wo.heap.size wo wr2) (fun i _ _ _ => m - (intOf i).toNat)
      case atStart => exact ⟨0, Nat.zero_le _, rfl, rfl, Below.refl _ _⟩
      case round =>
        obtain ⟨q, hq, rfl, rfl, hbi⟩ := hrel
        have HBI := hbl.trans (hbi.mono hbl.size)
        by_cases hlq : q < m
        · obtain ⟨b2, off2, rfl, hb2, hc2⟩ := (hs2.below HBI) (by omega)
          have y0 := hc2 q (by omega)
          have hci := HCH.out q hlq
          unfold IntC chF at y0
          obtain ⟨i, hi⟩ : ∃ i, ch.getD q 0 = i := ⟨_, rfl⟩
          rw [hi] at y0 hci
          have HI := Lib.hid hi
          obtain ⟨b, off1, rfl, hc⟩ := ProjectorAt.of_sl hs (by omega)
          obtain ⟨hbr, d0, d1, d2, d3, d4⟩ := (hc i hci).below HBI
          obtain ⟨pg, p0, p1⟩ := PairAt.below (show PairAt wo gk X Y from PA.out) hbi
          have QK := Lib.hid (HP.out i hci)
          have TK := Lib.hid (HT.out.below HBI)
          clear hc hc2 hi
          have hci' : (i : Int) < (n : Int) := by omega
          have step : litTo l ch X Y (q + 1) = (litTo l ch X Y q || decide (0 < rawP (l i) X Y)) := by rw [← HI.out]; rfl
          obtain ⟨v, hv⟩ : ∃ v, litTo l ch X Y q = v := ⟨_, rfl⟩
          rw [hv] at step ⊢
          have HST := Lib.hid step
          clear step hv
          cases v
          · by_cases r : 0 < rawP (l i) X Y
            · have r' := decide_eq_true r
              have E := Lib.hid (show litTo l ch X Y (q + 1) = true by rw [HST.out, r']; rfl)
              go_wp2_with fail
              refine wp_region_ext (by kernel_rfl) (by kernel_rfl) ?_
              repeat (go_big_quiet_step ((first | (go_at_call 79; exact quiet_ext (rawWeight_any (l i) X Y _ QK.out HXK.out.1 HXK.out.2 (TK.out.below (ExtW.below _)))))))
              refine wpQuiet_nil ?_
              intro e1
              have hb3 := hbi.trans (e1.below.mono hbi.size)
              go_wp2_with fail
              go_roundw
              case rel => exact ⟨q + 1, by omega, by go_num, by rw [E.out], hb3⟩
              case measure => simp [intOf]; omega
            · have r' := decide_eq_false r
              have E := Lib.hid (show litTo l ch X Y (q + 1) = false by rw [HST.out, r']; rfl)
              go_wp2_with fail
              refine wp_region_ext (by kernel_rfl) (by kernel_rfl) ?_
              repeat (go_big_quiet_step ((first | (go_at_call 79; exact quiet_ext (rawWeight_any (l i) X Y _ QK.out HXK.out.1 HXK.out.2 (TK.out.below (ExtW.below _)))))))
              refine wpQuiet_nil ?_
              intro e1
              have hb3 := hbi.trans (e1.below.mono hbi.size)
              go_wp2_with fail
              go_roundw
              case rel => exact ⟨q + 1, by omega, by go_num, by rw [E.out], hb3⟩
              case measure => simp [intOf]; omega
          · have E := Lib.hid (show litTo l ch X Y (q + 1) = true by rw [HST.out]; rfl)
            go_wp2_with fail
            refine wp_region_ext (by kernel_rfl) (by kernel_rfl) ?_
            repeat (go_big_quiet_step ((first | (go_at_call 79; exact quiet_ext (rawWeight_any (l i) X Y _ QK.out HXK.out.1 HXK.out.2 (TK.out.below (ExtW.below _)))))))
            refine wpQuiet_nil ?_
            intro e1
            have hb3 := hbi.trans (e1.below.mono hbi.size)
            go_wp2_with fail
            go_roundw
            case rel => exact ⟨q + 1, by omega, by go_num, by rw [E.out], hb3⟩
            case measure => simp [intOf]; omega
        · obtain rfl : q = m := by omega
          have HSX := Lib.hid (show litAll l ch x y (k + 1) = litTo l ch X Y q by show (litAll l ch x y k && litTo l ch (x k) (y k) ch.length) = _; rw [HLIT.out, HEX.out.1, HEX.out.2, HM.out]; rfl)
          have HFF := Lib.hid (fun (h : litTo l ch X Y q = false) (d : Nat) => litAll_false (l := l) (ch := ch) (x := x) (y := y) (k := k) (by rw [HEX.out.1, HEX.out.2, HM.out]; exact h) d)
          obtain ⟨v, hv⟩ : ∃ v, litTo l ch X Y q = v := ⟨_, rfl⟩
          rw [hv] at HSX ⊢
          have HV := Lib.hid hv
          clear hv
          cases v
          · go_wp2_with fail
            go_ret
            have h := HFF.out HV.out (N - (k + 1))
            rw [show k + 1 + (N - (k + 1)) = N by omega] at h
            exact ⟨ret_bool h.symm, HBI⟩
          · go_wp2_with fail
            go_roundw
            case rel => exact ⟨k + 1, by omega, by go_num, HSX.out, HBI⟩
            case measure => simp [intOf]; omega
    · obtain rfl : k = N := by omega
      go_wp2_with fail
      go_ret
      exact ⟨ret_bool HLIT.out.symm, hbl⟩
end Go.Proofs.YthjllledhcfnhaaDoor
