/- The shares of projectors at a direction: what the program answers. Conditions: valid projectors; the variable sines holds its table. -/
import Derived.Test.YthjllledhcfnhaaDoorWei
namespace Go.Ks
theorem best_next {R : Nat → Int} {j : Nat} : (R (bestTo R (j - 1)) < R j → bestTo R (j + 1 - 1) = j) ∧ (¬ R (bestTo R (j - 1)) < R j → bestTo R (j + 1 - 1) = bestTo R (j - 1)) := by
  rw [Nat.add_sub_cancel]
  cases j with
  | zero => exact ⟨fun h => absurd h (Int.lt_irrefl _), fun _ => rfl⟩
  | succ j => rw [Nat.add_sub_cancel]; exact ⟨best_yes, best_no⟩
end Go.Ks
namespace Go.Proofs.YthjllledhcfnhaaDoor
open Go.RowKit Go.Lib Go.Ks
theorem zero_arr (n : Nat) : madeCells #[Value.int IntKind.i64 0] n = arr n (fun _ => .int .i64 0) := by
  rw [made_arr]
  apply arr_ext
  intro j _
  show #[Value.int IntKind.i64 0][j % 1]! = _
  rw [Nat.mod_one j]
  rfl
theorem of_alloc {w w' : World} {cs : Array Value} {t : TypeId} (h : w.alloc (.cells cs t) = w') : Below w.heap.size w w' ∧ Blk w' w.heap.size t cs := by rw [← h]; exact ⟨(Below.refl _ _).alloc (Nat.le_refl _) _, Blk.new w t cs⟩
theorem int_set {w : World} {B : Nat} {t : TypeId} {m i : Nat} {f : Nat → Int} {u : Int} (h : Blk w B t (arr m (IntC f))) : Blk (w.setCell ⟨B, i, none⟩ (.int .i64 u)) B t (arr m (IntC (upd f i u))) := by
  have q := h.set_ i (.int .i64 u)
  rw [arr_set] at q
  refine q.congr (fun j _ => ?_)
  unfold IntC upd
  by_cases e : j = i
  · rw [if_pos e, if_pos e]
  · rw [if_neg e, if_neg e]
theorem int_cell {w : World} {B : Nat} {t : TypeId} {m i : Nat} {f : Nat → Int} (h : Blk w B t (arr m (IntC f))) (hi : i < m) : w.cell? ⟨B, i, none⟩ = some (.int .i64 (f i)) := by rw [h.cell, arr_get _ _ _ hi]; rfl
set_option maxRecDepth 100000 in
set_option maxHeartbeats 8000000 in
theorem sharesAt_any (A : Option Addr) (n c : Nat) (l : Nat → ProjectorD) (az alt : Int) (w : World) (hn : n ≤ 6) (hs : Sl w A (n * 5) (ProjectorC l)) (hp : ∀ k, k < n → projB (l k) = true) (ha : I64 az) (hl : I64 alt) (hT : Tab w) :
    Calls Tryd.prog 76 #[.slice A n c, .int .i64 az, .int .i64 alt] w fun e w' => (∃ A' c', e = .returned (.tuple #[.slice A' (sharesN l az alt n) c', .int .i64 (if rawS l az alt n = 0 then 3 else 0)]) ∧ Own w' w.heap.size 2 1 A' (sharesN l az alt n) (IntC (sharesL l az alt n)) ∧ (A' = none → c' = 0)) ∧ Below w.heap.size w w' := by
  have hn6 : (n : Int) ≤ 6 := by omega
  obtain ⟨i0, hi, hz0, hz1, hz2⟩ := info_parts Tryd.infoI64
  have hmk := fun W => run_make_rowN (P := Tryd.prog) 24 2 i0 _ Tryd.underlying24 hi hz0 .i64 .i64 n n (Nat.le_refl _) (by rw [hz2]; omega) (by omega) W
  rw [hz1] at hmk
  have HF : ∀ k, k < n → 5000 ≤ (l k).f3 := fun k hk => (proj_dir (hp k hk)).2.2.1.1
  have HP := Lib.hid hp
  have HA := Lib.hid ha
  have HL := Lib.hid hl
  have HT := Lib.hid hT
  clear hp ha hl hT
  go_enter Tryd.func76, Tryd.ntmps76
  go_wp2_with fail
  generalize hW : World.alloc w _ = w1
  obtain ⟨HB, r0⟩ := of_alloc hW
  clear hW
  rw [zero_arr] at r0
  go_loopw [9, 24] (fun s i wr => ∃ k : Nat, k ≤ n ∧ i = .int .i64 k ∧ s = .int .i64 (sumTo (rawF l az alt) k) ∧ Below w.heap.size w wr ∧ Blk wr w.heap.size 2 (arr n (fun j => if j < k then IntC (rawF l az alt) j else .int .i64 0))) (fun _ i _ => n - (intOf i).toNat)
  case atStart => exact ⟨0, Nat.zero_le _, rfl, rfl, HB, r0.congr (fun j _ => by rw [if_neg (by omega)])⟩
  case round =>
    obtain ⟨k, hk, rfl, rfl, hbl, hblk⟩ := hrel
    obtain ⟨cb0, cb1⟩ := rawS_bd (az := az) (alt := alt) HF hk
    by_cases hlt : k < n
    · obtain ⟨b, off, rfl, hc⟩ := ProjectorAt.of_sl hs (by omega)
      obtain ⟨hbr, d0, d1, d2, d3, d4⟩ := (hc k hlt).below hbl
      have hbr2 : b < wr.heap.size + 1 := by omega
      have gl := hblk.lt
      have hal : Below w.heap.size w (wr.alloc (.cells #[.string (l k).f0, .int .i64 (l k).f1, .int .i64 (l k).f2, .int .i64 (l k).f3, .int .i64 (l k).f4] 43)) := hbl.alloc hbl.size _
      have hsz : w.heap.size ≤ (wr.alloc (.cells #[.string (l k).f0, .int .i64 (l k).f1, .int .i64 (l k).f2, .int .i64 (l k).f3, .int .i64 (l k).f4] 43)).heap.size := hal.size
      have QK := Lib.hid (HP.out k hlt)
      have TK := Lib.hid (HT.out.below hal)
      clear hc
      obtain ⟨rf0, rf1⟩ := rawF_bd (az := az) (alt := alt) HF hlt
      unfold rawF at rf0 rf1
      go_wp2_with fail
      refine (rawWeight_any (l k) az alt _ QK.out HA.out HL.out TK.out).mono ?_
      rintro e w5 ⟨rfl, hb5⟩
      have hbl5 := hal.trans (hb5.mono hsz)
      have hk5 := (hblk.alloc (.cells #[.string (l k).f0, .int .i64 (l k).f1, .int .i64 (l k).f2, .int .i64 (l k).f3, .int .i64 (l k).f4] 43)).below hb5 (by simp; omega)
      have s0 : w5.cell? ⟨w.heap.size, k, none⟩ = some (.int .i64 0) := by rw [hk5.cell, arr_get _ _ _ (by omega), if_neg (by omega)]
      have f0 : w5.frozen? ⟨w.heap.size, k, none⟩ = false := hk5.frozen _
      have g5 : w.heap.size < w5.heap.size := hk5.lt
      clear hmk d0 d1 d2 d3 d4
      go_wp2_with fail
      go_roundw
      case rel =>
        refine ⟨k + 1, by omega, by go_num, rfl, hbl5.setCell (Nat.le_refl _) _, ?_⟩
        have h := hk5.set_ k (.int .i64 (rawP (l k) az alt))
        rw [arr_set] at h
        exact to_step1 h rfl
      case measure => simp [intOf]; omega
    · obtain rfl : k = n := by omega
      have hraw : Blk wr w.heap.size 2 (arr k (IntC (rawF l az alt))) := hblk.congr (fun j hj => if_pos (by omega))
      by_cases q : rawS l az alt k = 0
      · have EE := Lib.hid (show sharesN l az alt k = 0 from if_pos q)
        have q' : sumTo (rawF l az alt) k = 0 := q
        clear q
        go_wp2_with fail
        go_ret2
        rw [EE.out]
        exact ⟨⟨none, 0, rfl, Own.nil _ _ _ _ _, fun _ => rfl⟩, hbl⟩
      have q0 : ¬ sumTo (rawF l az alt) k = 0 := q
      have hS : 0 < sumTo (rawF l az alt) k := by omega
      have gl := hraw.lt
      have HQ := Lib.hid q
      clear q
      go_wp2_with fail
      have q1 : (sumTo (rawF l az alt) k == 0) = false := by simpa using q0
      rw [q1]
      clear hmk q0 q1
      generalize hV : World.alloc (World.alloc wr _) _ = w3
      have HB3 : Below w.heap.size w w3 := by rw [← hV]; exact (hbl.alloc hbl.size _).alloc (by simp; have := hbl.size; omega) _
      have a3 : Blk w3 w.heap.size 2 (arr k (IntC (rawF l az alt))) := by rw [← hV]; exact (hraw.alloc _).alloc _
      have p3 : Blk w3 (wr.heap.size + 1) 2 (arr k (fun _ => .int .i64 0)) := by
        have h := (of_alloc hV).2
        rw [zero_arr] at h
        simpa using h
      have o3 : Blk w3 wr.heap.size 2 (arr k (fun _ => .int .i64 0)) := by
        have h := (Blk.new wr 2 (madeCells #[Value.int IntKind.i64 0] k)).alloc (.cells (madeCells #[Value.int IntKind.i64 0] k) 2)
        rw [hV, zero_arr] at h
        exact h
      clear hV
      obtain ⟨O, hO⟩ : ∃ O, O = wr.heap.size := ⟨_, rfl⟩
      rw [← hO] at p3 o3 gl ⊢
      clear hO
      obtain ⟨wq, rfl⟩ : ∃ wq : World, wq = wr := ⟨_, rfl⟩
      go_loopw [14, 53] (fun s i wr2 => ∃ j : Nat, j ≤ k ∧ i = .int .i64 (j : Int) ∧ s = .int .i64 (1000 - sumTo (quoF l az alt k) j) ∧ Below w.heap.size w wr2 ∧ Blk wr2 w.heap.size 2 (arr k (IntC (rawF l az alt))) ∧ Blk wr2 O 2 (arr k (fun x => if x < j then IntC (quoF l az alt k) x else .int .i64 0)) ∧ Blk wr2 (O + 1) 2 (arr k (fun x => if x < j then IntC (remF l az alt k) x else .int .i64 0))) (fun _ i _ => k - (intOf i).toNat)
      case atStart => exact ⟨0, Nat.zero_le _, rfl, rfl, HB3, a3, o3.congr (fun j _ => by rw [if_neg (by omega)]), p3.congr (fun j _ => by rw [if_neg (by omega)])⟩
      case round =>
        obtain ⟨j, hj, rfl, rfl, hbl2, ha2, ho2, hp2⟩ := hrel
        obtain ⟨e0, e1⟩ := quoS_bd (az := az) (alt := alt) HF HQ.out hj
        have gp := hp2.lt
        have ga := ha2.lt
        by_cases hlt2 : j < k
        · obtain ⟨rf0, rf1⟩ := rawF_bd (az := az) (alt := alt) HF hlt2
          obtain ⟨qs0, qs1⟩ := quo_small rf0 rf1 hS
          have s0 := int_cell ha2 hlt2
          have s1 : wr.cell? ⟨O, j, none⟩ = some (.int .i64 0) := by rw [ho2.cell, arr_get _ _ _ hlt2, if_neg (by omega)]
          have s2 : wr.cell? ⟨O + 1, j, none⟩ = some (.int .i64 0) := by rw [hp2.cell, arr_get _ _ _ hlt2, if_neg (by omega)]
          have f1 : wr.frozen? ⟨O, j, none⟩ = false := ho2.frozen _
          have f2 : wr.frozen? ⟨O + 1, j, none⟩ = false := hp2.frozen _
          go_wp2_with fail
          go_roundw
          case rel =>
            refine ⟨j + 1, by omega, by go_num, ret_num ?_, (hbl2.setCell (by simp; omega) _).setCell (by simp; omega) _, (ha2.far (by simp; omega) _).far (by simp; omega) _, ?_, ?_⟩
            · show _ = 1000 - (sumTo (quoF l az alt k) j + 1000 * rawF l az alt j / sumTo (rawF l az alt) k)
              omega
            · have h := ho2.set_ j (.int .i64 (1000 * rawF l az alt j / sumTo (rawF l az alt) k))
              rw [arr_set] at h
              exact (to_step1 h rfl).far (by simp) _
            · have h := (hp2.far (p := ⟨O, j, none⟩) (by simp) (.int .i64 (1000 * rawF l az alt j / sumTo (rawF l az alt) k))).set_ j (.int .i64 (1000 * rawF l az alt j % sumTo (rawF l az alt) k))
              rw [arr_set] at h
              exact to_step1 h rfl
          case measure => simp [intOf]; omega
        · obtain rfl : j = k := by omega
          have ho : Blk wr O 2 (arr j (IntC (quoF l az alt j))) := ho2.congr (fun x hx => if_pos hx)
          have hpr : Blk wr (O + 1) 2 (arr j (IntC (remF l az alt j))) := hp2.congr (fun x hx => if_pos hx)
          have jp : 0 < j := by
            rcases Nat.eq_zero_or_pos j with h | h
            · rw [h] at hS; exact absurd hS (Int.lt_irrefl _)
            · exact h
          have lb : leftN l az alt j ≤ 1000 ∧ -7000000 ≤ leftN l az alt j := by unfold leftN; omega
          obtain ⟨lb0, lb1⟩ := lb
          go_wp2_with fail
          obtain ⟨wq2, rfl⟩ : ∃ q : World, q = wr := ⟨_, rfl⟩
          go_loopw [14] (fun s wr => ∃ t : Nat, s = .int .i64 (leftN l az alt j - (t : Int)) ∧ t ≤ (leftN l az alt j).toNat ∧ Below w.heap.size w wr ∧ Blk wr O 2 (arr j (IntC (stepO j (quoF l az alt j) (remF l az alt j) t).1)) ∧ Blk wr (O + 1) 2 (arr j (IntC (stepO j (quoF l az alt j) (remF l az alt j) t).2))) (fun s _ => (intOf s).toNat)
          case atStart => exact ⟨0, ret_num (by unfold leftN; simp), Nat.zero_le _, hbl2, ho, hpr⟩
          case round =>
            obtain ⟨t, rfl, ht, hbl3, ho3, hp3⟩ := hrel
            have gp3 := hp3.lt
            by_cases hlt3 : t < (leftN l az alt j).toNat
            · have lp : 0 < leftN l az alt j - (t : Int) := by omega
              have hfb := stepO_bd (q := quoF l az alt j) (r := remF l az alt j) (m := 1001000) (fun x hx => quoF_bd (az := az) (alt := alt) HF HQ.out hx) t
              obtain ⟨R, hR⟩ : ∃ R, R = (stepO j (quoF l az alt j) (remF l az alt j) t).2 := ⟨_, rfl⟩
              obtain ⟨F, hF⟩ : ∃ F, F = (stepO j (quoF l az alt j) (remF l az alt j) t).1 := ⟨_, rfl⟩
              rw [← hF] at ho3 hfb
              rw [← hR] at hp3
              have HRF := Lib.hid (And.intro hR hF)
              clear hR hF
              go_wp2_with fail
              rw [show decide ((t : Int) < leftN l az alt j) = true from decide_eq_true (by omega)]
              obtain ⟨w4, rfl⟩ : ∃ q : World, q = wr := ⟨_, rfl⟩
              go_loopw [17, 85] (fun b i wr => ∃ x : Nat, x ≤ j ∧ i = .int .i64 (x : Int) ∧ b = .int .i64 ((bestTo R (x - 1) : Nat) : Int) ∧ Below w4.heap.size w4 wr) (fun _ i _ => j - (intOf i).toNat)
              case atStart => exact ⟨0, Nat.zero_le _, rfl, rfl, Below.refl _ _⟩
              case round =>
                obtain ⟨x, hx, rfl, rfl, hbl4⟩ := hrel
                have hp4 := hp3.below hbl4 hp3.lt
                have ho4 := ho3.below hbl4 ho3.lt
                have bb := bestTo_le R (x - 1)
                have gp := hp4.lt
                by_cases hlt4 : x < j
                · have s0 := int_cell hp4 hlt4
                  have s1 := int_cell hp4 (i := bestTo R (x - 1)) (by omega)
                  by_cases g : R (bestTo R (x - 1)) < R x
                  · have E := Lib.hid (best_next.1 g)
                    go_wp2_with fail
                    refine wp_region_ext (by kernel_rfl) (by kernel_rfl) ?_
                    repeat (go_big_quiet_step (fail))
                    refine wpQuiet_nil ?_
                    intro e1
                    have hbl5 := hbl4.trans (e1.below.mono hbl4.size)
                    go_wp2_with fail
                    go_roundw
                    case rel => exact ⟨x + 1, by omega, by go_num, ret_num (by rw [E.out]), hbl5⟩
                    case measure => simp [intOf]; omega
                  · have E := Lib.hid (best_next.2 g)
                    go_wp2_with fail
                    refine wp_region_ext (by kernel_rfl) (by kernel_rfl) ?_
                    repeat (go_big_quiet_step (fail))
                    refine wpQuiet_nil ?_
                    intro e1
                    have hbl5 := hbl4.trans (e1.below.mono hbl4.size)
                    go_wp2_with fail
                    go_roundw
                    case rel => exact ⟨x + 1, by omega, by go_num, ret_num (by rw [E.out]), hbl5⟩
                    case measure => simp [intOf]; omega
                · have hxj : x = j := by omega
                  have bj : bestTo R (x - 1) < j := by omega
                  obtain ⟨b, hb⟩ : ∃ b, b = bestTo R (x - 1) := ⟨_, rfl⟩
                  rw [← hb] at bj bb ⊢
                  have HB4 := Lib.hid (show b = bestTo R (j - 1) by rw [hb, hxj])
                  clear hb
                  have s0 := int_cell ho4 bj
                  have s1 := int_cell hp4 bj
                  have f0 : wr.frozen? ⟨O, b, none⟩ = false := ho4.frozen _
                  have f1 : wr.frozen? ⟨O + 1, b, none⟩ = false := hp4.frozen _
                  obtain ⟨fb0, fb1⟩ := hfb b bj
                  have hbl5 := hbl3.trans (hbl4.mono hbl3.size)
                  go_wp2_with fail
                  go_roundw
                  case rel =>
                    refine ⟨t + 1, ret_num (by omega), by omega, (hbl5.setCell (by simp; omega) _).setCell (by simp; omega) _, ?_, ?_⟩
                    · have h := (int_set (u := F b + 1) (i := b) ho4).far (p := ⟨O + 1, b, none⟩) (by simp) (.int .i64 (-1))
                      rw [HB4.out, HRF.out.1, HRF.out.2] at h
                      rw [HB4.out, HRF.out.1, HRF.out.2]
                      exact h
                    · have h := int_set (u := -1) (i := b) (hp4.far (p := ⟨O, b, none⟩) (by simp) (.int .i64 (F b + 1)))
                      rw [HB4.out, HRF.out.1, HRF.out.2] at h
                      rw [HB4.out, HRF.out.1, HRF.out.2]
                      exact h
                  case measure => simp [intOf]; omega
            · have ht2 : t = (leftN l az alt j).toNat := by omega
              have EN := Lib.hid (show sharesN l az alt j = j from if_neg HQ.out)
              go_wp2_with fail
              go_ret2
              rw [EN.out]
              refine ⟨⟨some ⟨O, 0, none⟩, j, rfl, ?_, fun h => by cases h⟩, hbl3⟩
              rw [ht2] at ho3
              exact Own.blk ho3 (by omega) (by omega) (fun _ _ => rfl)
end Go.Proofs.YthjllledhcfnhaaDoor
