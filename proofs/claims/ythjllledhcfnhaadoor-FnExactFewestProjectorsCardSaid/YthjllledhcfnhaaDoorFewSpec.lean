/- The reference's search for the fewest projectors: the walk. Conditions: those of each theorem. -/
import Derived.Test.YthjllledhcfnhaaDoorFewEq
namespace Go.Proofs.YthjllledhcfnhaaDoor
open Go.RowKit Go.Lib Go.Ks
/-- the reach of n projectors over N spots -/
def RowsAt (w : World) (AR : Option Addr) (n N : Nat) (R cR : Nat → Nat) (row : Nat → Nat → Bool) : Prop :=
  Sl w AR (n * 1) (fun k => .slice (some ⟨R k, 0, none⟩) N (cR k)) ∧ ∀ k, k < n → Sl w (some ⟨R k, 0, none⟩) (N * 1) (BoolC (row k))
set_option maxRecDepth 100000 in
set_option maxHeartbeats 8000000 in
theorem enough_any (s : Nat) (w : World) (AL : Option Addr) (N cl : Nat) (AR : Option Addr) (n cr : Nat) (m nodes bud : Int) (full : Bool) (AC : Option Addr) (cc : Nat) (ch : List Nat) (R cR : Nat → Nat) (row : Nat → Nat → Bool) (lit : Nat → Bool)
    (hN : N ≤ 360) (hn : n ≤ 6) (hm : ch.length ≤ 6) (hch : ∀ q, q < ch.length → ch.getD q 0 < n)
    (hx : Blk w s 95 #[.slice AR n cr, .slice AL N cl, .int .i64 m, .slice AC ch.length cc, .int .i64 nodes, .int .i64 bud, .bool full])
    (hr : RowsAt w AR n N R cR row) (hl : Sl w AL (N * 1) (BoolC lit)) (hc : Sl w AC (ch.length * 1) (IntC (chF ch))) :
    Calls Tryd.prog 117 #[.pointer (some ⟨s, 0, none⟩)] w fun e w' => e = .returned (.bool (enB lit row ch N)) ∧ Below w.heap.size w w' := by
  have HX := Lib.hid hx
  have HR := Lib.hid hr
  have HL := Lib.hid hl
  have HC := Lib.hid hc
  have HCH := Lib.hid hch
  clear hx hr hl hc hch
  go_enter Tryd.func117, Tryd.ntmps117
  go_wp2_with fail
  go_loopw [3] (fun i wr => ∃ k : Nat, k ≤ N ∧ i = .int .i64 (k : Int) ∧ enB lit row ch k = true ∧ Below w.heap.size w wr) (fun i _ => N - (intOf i).toNat)
  case atStart => exact ⟨0, Nat.zero_le _, rfl, rfl, Below.refl _ _⟩
  case round =>
    obtain ⟨k, hk, rfl, he, hbl⟩ := hrel
    have hxr := HX.out.below hbl HX.out.lt
    have c0 := hxr.cell 0
    have c1 := hxr.cell 1
    have c3 := hxr.cell 3
    have hs := hxr.lt
    by_cases hlt : k < N
    · have hlt' : (k : Int) < (N : Int) := by omega
      obtain ⟨bL, oL, rfl, hbL, hcL⟩ := (HL.out.below hbl) (by omega)
      have l0 := hcL k (by omega)
      unfold BoolC at l0
      clear hcL
      go_wp2_with fail
      obtain ⟨wq, rfl⟩ : ∃ q : World, q = wr := ⟨_, rfl⟩
      go_loopw [4, 5] (fun b q wr => ∃ j : Nat, j ≤ ch.length ∧ q = .int .i64 (j : Int) ∧ b = .bool (rowLit row ch k j) ∧ Below wq.heap.size wq wr) (fun _ q _ => ch.length - (intOf q).toNat)
      case atStart => exact ⟨0, Nat.zero_le _, rfl, rfl, Below.refl _ _⟩
      case round =>
        obtain ⟨j, hj, rfl, rfl, hb2⟩ := hrel
        have HB2 := hbl.trans (hb2.mono hbl.size)
        have hxr2 := HX.out.below HB2 HX.out.lt
        have e0 := hxr2.cell 0
        have e1 := hxr2.cell 1
        have e3 := hxr2.cell 3
        have hs2 := hxr2.lt
        clear hxr2
        have l1 : wr.cell? ⟨bL, oL + k, none⟩ = some (.bool (lit k)) := (hb2.cell (p := ⟨bL, oL + k, none⟩) hbL).trans l0
        have hbL2 : bL < wr.heap.size := Nat.lt_of_lt_of_le hbL hb2.size
        clear l0 hbL c0 c1 c3 hs hxr
        by_cases hlj : j < ch.length
        · have hlj' : (j : Int) < (ch.length : Int) := by omega
          obtain ⟨bC, oC, rfl, hbC, hcC⟩ := (HC.out.below HB2) (by omega)
          have d0 := hcC j (by omega)
          unfold IntC chF at d0
          have hi := HCH.out j hlj
          have ST : rowLit row ch k (j + 1) = (rowLit row ch k j || row (ch.getD j 0) k) := rfl
          obtain ⟨i, hI⟩ : ∃ i, ch.getD j 0 = i := ⟨_, rfl⟩
          rw [hI] at d0 hi ST
          clear hI hcC
          have hi' : (i : Int) < (n : Int) := by omega
          obtain ⟨bR, oR, rfl, hbR, hcR⟩ := (HR.out.1.below HB2) (by omega)
          have r0 := hcR i (by omega)
          obtain ⟨b4, o4, e4, hb4, hc4⟩ := ((HR.out.2 i hi).below HB2) (by omega)
          injection e4 with e4
          injection e4 with e5 e6
          subst e5 e6
          have r1 := hc4 k (by omega)
          unfold BoolC at r1
          rw [Nat.zero_add] at r1
          clear hcR hc4
          obtain ⟨v, hv⟩ : ∃ v, rowLit row ch k j = v := ⟨_, rfl⟩
          obtain ⟨u, hu⟩ : ∃ u, row i k = u := ⟨_, rfl⟩
          rw [hv, hu] at ST
          rw [hu] at r1
          rw [hv]
          have HST := Lib.hid ST
          clear ST hv hu
          cases v
          · have E := Lib.hid (show rowLit row ch k (j + 1) = u by rw [HST.out]; rfl)
            go_wp2_with fail
            refine wp_region_ext (by kernel_rfl) (by kernel_rfl) ?_
            repeat (go_big_quiet_step (fail))
            refine wpQuiet_nil ?_
            intro e9
            have hb3 := hb2.trans (e9.below.mono hb2.size)
            go_wp2_with fail
            go_roundw
            case rel => exact ⟨j + 1, by omega, by go_num, by rw [E.out], hb3⟩
            case measure => simp [intOf]; omega
          · have E := Lib.hid (show rowLit row ch k (j + 1) = true by rw [HST.out]; rfl)
            go_wp2_with fail
            refine wp_region_ext (by kernel_rfl) (by kernel_rfl) ?_
            repeat (go_big_quiet_step (fail))
            refine wpQuiet_nil ?_
            intro e9
            have hb3 := hb2.trans (e9.below.mono hb2.size)
            go_wp2_with fail
            go_roundw
            case rel => exact ⟨j + 1, by omega, by go_num, by rw [E.out], hb3⟩
            case measure => simp [intOf]; omega
        · obtain rfl : j = ch.length := by omega
          have EN := Lib.hid (enB_more (lit := lit) (row := row) (ch := ch) (i := k) he)
          have EF := Lib.hid (fun h1 h2 => enB_false (lit := lit) (row := row) (ch := ch) (i := k) h1 h2 (N - (k + 1)))
          obtain ⟨v, hv⟩ : ∃ v, rowLit row ch k ch.length = v := ⟨_, rfl⟩
          obtain ⟨u, hu⟩ : ∃ u, lit k = u := ⟨_, rfl⟩
          rw [hv]
          rw [hu] at l1
          have HV := Lib.hid hv
          have HU := Lib.hid hu
          clear hv hu he
          cases u
          · have E := Lib.hid (EN.out (.inl HU.out))
            go_wp2_with fail
            go_roundw
            case rel => exact ⟨k + 1, by omega, by go_num, E.out, HB2⟩
            case measure => simp [intOf]; omega
          · cases v
            · have E := Lib.hid (EF.out HU.out HV.out)
              rw [show k + 1 + (N - (k + 1)) = N by omega] at E
              go_wp2_with fail
              go_ret
              exact ⟨congrArg (fun b => Ending.returned (.bool b)) E.out.symm, HB2⟩
            · have E := Lib.hid (EN.out (.inr HV.out))
              go_wp2_with fail
              go_roundw
              case rel => exact ⟨k + 1, by omega, by go_num, E.out, HB2⟩
              case measure => simp [intOf]; omega
    · obtain rfl : k = N := by omega
      go_wp2_with fail
      go_ret
      exact ⟨congrArg (fun b => Ending.returned (.bool b)) he.symm, hbl⟩
end Go.Proofs.YthjllledhcfnhaaDoor
