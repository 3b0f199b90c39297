/- The shares of projectors at a direction: what the reference answers. Conditions: valid projectors. -/
import Derived.Test.YtkjnpnijplnoaaaDoorShares
namespace Go.Ks
open Go.RowKit Go.Lib
/-- a block whose first n cells are the numbers F -/
def IB (w : World) (P : Nat) (t : TypeId) (n : Nat) (F : Nat → Int) : Prop := ∃ m h, Blk w P t (arr m h) ∧ n ≤ m ∧ ∀ x, x < n → h x = .int .i64 (F x)
section
variable {w w' : World} {P : Nat} {t : TypeId} {n : Nat} {F : Nat → Int}
theorem IB.lt (h : IB w P t n F) : P < w.heap.size := by obtain ⟨m, f, hk, _⟩ := h; exact hk.lt
theorem IB.cell (h : IB w P t n F) {i : Nat} (hi : i < n) : w.cell? ⟨P, i, none⟩ = some (.int .i64 (F i)) := by
  obtain ⟨m, f, hk, hm, hf⟩ := h
  rw [hk.cell, arr_get _ _ _ (by omega), hf i hi]
theorem IB.frozen (h : IB w P t n F) (i : Nat) : w.frozen? ⟨P, i, none⟩ = false := by obtain ⟨m, f, hk, _⟩ := h; exact hk.frozen i
theorem IB.below (h : IB w P t n F) (hb : Below w.heap.size w w') : IB w' P t n F := by obtain ⟨m, f, hk, r⟩ := h; exact ⟨m, f, hk.below hb hk.lt, r⟩
theorem IB.far (h : IB w P t n F) {p : Addr} (hp : P ≠ p.block) (u : Value) : IB (w.setCell p u) P t n F := by obtain ⟨m, f, hk, r⟩ := h; exact ⟨m, f, hk.far hp u, r⟩
theorem IB.set (h : IB w P t n F) (i : Nat) (u : Int) : IB (w.setCell ⟨P, i, none⟩ (.int .i64 u)) P t n (upd F i u) := by
  obtain ⟨m, f, hk, hm, hf⟩ := h
  have q := hk.set_ i (.int .i64 u)
  rw [arr_set] at q
  refine ⟨m, _, q, hm, fun x hx => ?_⟩
  unfold upd
  by_cases e : x = i
  · simp [e]
  · simp only [if_neg e]; exact hf x hx
theorem IB.own (h : IB w P t n F) {base : Nat} (hb : base ≤ P) : Own w base t 1 (some ⟨P, 0, none⟩) n (fun j => .int .i64 (F j)) := by
  obtain ⟨m, f, hk, hm, hf⟩ := h
  exact Own.blk hk hb (by omega) (fun j hj => hf j (by omega))
theorem IB.of_row {base c : Nat} (h : Row w base t 1 (.slice (some ⟨P, 0, none⟩) n c) n (fun j => .int .i64 (F j))) (hn : 0 < n) : IB w P t n F ∧ base ≤ P := by
  obtain ⟨A, c', hv, _, hown, _⟩ := h.own
  rcases hown with ⟨_, h0⟩ | ⟨B, m, g, hA, hb, hk, hm, hf⟩
  · omega
  · rw [hA] at hv
    have hB : P = B := by
      injection hv with h1 _ _
      injection h1 with h2
      injection h2
    subst hB
    exact ⟨⟨m, g, hk, by omega, fun x hx => hf x (by omega)⟩, hb⟩
theorem int_one {f : Nat → Value} {j0 : Nat} {q : Int} (h : f (j0 + 0) = .int .i64 q) : ∀ j, j < 1 → (f (j0 + j)).oneCell' = true := fun j hj => by
  obtain rfl : j = 0 := by omega
  rw [h]
  rfl
theorem int_news {w : World} {t : TypeId} {f : Nat → Value} {j0 g : Nat} {q : Int} (hg : g = w.heap.size) (h : f (j0 + 0) = .int .i64 q) : ∀ j, j < 1 → (w.alloc (.cells #[.int .i64 q] t)).cell? ⟨g, j, none⟩ = some (f (j0 + j)) := fun j hj => by
  subst hg
  obtain rfl : j = 0 := by omega
  rw [(Blk.new w t #[.int .i64 q]).cell, h]
  rfl
end
end Go.Ks
namespace Go.Proofs.YtkjnpnijplnoaaaDoor
open Go.RowKit Go.Lib Go.Ks
set_option maxRecDepth 100000 in
set_option maxHeartbeats 8000000 in
theorem l10Weights_any (A : Option Addr) (n c : Nat) (l : Nat → ProjectorD) (az alt : Int) (w : World) (hn : n ≤ 6) (hs : Sl w A (n * 5) (ProjectorC l)) (hp : ∀ k, k < n → projB (l k) = true) :
    Calls Tryd.prog 63 #[.slice A n c, .agg #[.int .i64 (dirV az alt).f0, .int .i64 (dirV az alt).f1, .int .i64 (dirV az alt).f2]] w fun e w' => (∃ A' c', e = .returned (.slice A' (sharesN l az alt n) c') ∧ Own w' w.heap.size 2 1 A' (sharesN l az alt n) (IntC (sharesL l az alt n)) ∧ (A' = none → c' = 0)) ∧ Below w.heap.size w w' := by
  have hn6 : (n : Int) ≤ 6 := by omega
  obtain ⟨i0, hi, hz0, hz1, hz2⟩ := info_parts Tryd.infoI64
  have HF : ∀ k, k < n → 5000 ≤ (l k).f3 := fun k hk => (proj_dir (hp k hk)).2.2.1.1
  have HP := Lib.hid hp
  clear hp
  go_enter Tryd.func63, Tryd.ntmps63
  go_wp2_with fail
  generalize hW : World.alloc (World.alloc w _) _ = w1
  have HB : Below w.heap.size w w1 := by rw [← hW]; repeat (first | with_reducible exact Below.refl _ _ | with_reducible assumption | with_reducible refine Below.setCell ?_ (by simp <;> omega) _ | with_reducible refine Below.alloc ?_ (by simp <;> omega) _ | with_reducible refine Below.drew ?_)
  have v0 : Blk w1 w.heap.size 72 #[.int .i64 (dirV az alt).f0, .int .i64 (dirV az alt).f1, .int .i64 (dirV az alt).f2] := by rw [← hW]; exact (Blk.new w _ _).alloc _
  have r0 : Row w1 (w.heap.size + 1) 2 1 (.slice (some ⟨w.heap.size + 1, 0, none⟩) 0 0) 0 (IntC (rawF l az alt)) := by
    have h := Row.empty (w.alloc (.cells #[.int .i64 (dirV az alt).f0, .int .i64 (dirV az alt).f1, .int .i64 (dirV az alt).f2] 72)) (base := w.heap.size + 1) 2 1 (IntC (rawF l az alt)) (by simp)
    rw [hW] at h
    simpa using h
  have w1z : w1.heap.size = w.heap.size + 2 := by rw [← hW]; simp
  clear hW
  go_loopw [5, 6, 7] (fun v s i wr => ∃ k : Nat, k ≤ n ∧ i = .int .i64 k ∧ s = .int .i64 (sumTo (rawF l az alt) k) ∧ Row wr (w.heap.size + 1) 2 1 v k (IntC (rawF l az alt)) ∧ Below (w.heap.size + 1) w1 wr) (fun _ _ i _ => n - (intOf i).toNat)
  case atStart => exact ⟨0, Nat.zero_le _, rfl, rfl, r0, Below.refl _ _⟩
  case round =>
    obtain ⟨k, hk, rfl, rfl, hrow, hbl⟩ := hrel
    obtain ⟨cb0, cb1⟩ := rawS_bd (az := az) (alt := alt) HF hk
    have hsz := hbl.size
    have v1 := v0.below hbl (by omega)
    by_cases hlt : k < n
    · obtain ⟨b, off, rfl, hc⟩ := ProjectorAt.of_sl hs (by omega)
      have HBL : Below w.heap.size w wr := HB.trans (hbl.mono (by omega))
      have PK := Lib.hid ((hc k hlt).below HBL)
      have QK := Lib.hid (HP.out k hlt)
      have d0 := v1.cell 0
      have d1 := v1.cell 1
      have d2 := v1.cell 2
      simp at d0 d1 d2
      have dl := v1.lt
      clear hc
      obtain ⟨rf0, rf1⟩ := rawF_bd (az := az) (alt := alt) HF hlt
      unfold rawF at rf0 rf1
      go_wp2_with fail
      refine wp_region_ext (by kernel_rfl) (by kernel_rfl) ?_
      repeat (go_big_quiet_step ((first | (go_at_call 57; exact quiet_ext (l10Raw_any _ _ (l k) az alt _ (PK.out.below (ExtW.below _)) QK.out)))))
      refine wpQuiet_nil ?_
      intro e1
      have hb2 := e1.below
      have hrow2 := hrow.below hb2
      have hbl2 := hbl.trans (hb2.mono (by omega))
      have hsz2 := hbl2.size
      clear d0 d1 d2 dl
      have HONE := Lib.hid (show IntC (rawF l az alt) (k * 1 + 0) = .int .i64 (rawP (l k) az alt) by rw [Nat.mul_one]; rfl)
      go_wp2_with (at_builtin; refine wpList_append_at rfl _ _ 32 rfl (w.heap.size + 1) 2 i0 _ 1 8 Tryd.underlying32 hi hz0 hz1 hz2 rfl (by decide) _ k (IntC (rawF l az alt)) rfl (hrow2.alloc _) _ 1 rfl (int_news (by simp) HONE.out) (int_one HONE.out) (by omega) (by omega) (by simp; omega) ?_)
      intro g6 c6 w6 hrow6 hg6 _ _
      have hb6 := Row.after (hbl2.alloc (by omega) _) (Nat.le_refl _) (by simp; omega) (hrow2.alloc _) hg6 hrow6
      clear hg6
      go_wp2_with fail
      go_roundw
      case rel => exact ⟨k + 1, by omega, by go_num, rfl, hrow6, hb6⟩
      case measure => simp [intOf]; omega
    · obtain rfl : k = n := by omega
      have HBL : Below w.heap.size w wr := HB.trans (hbl.mono (by omega))
      by_cases q : rawS l az alt k = 0
      · have EE := Lib.hid (show sharesN l az alt k = 0 from if_pos q)
        have q' : sumTo (rawF l az alt) k = 0 := q
        clear q
        go_wp2_with fail
        go_ret
        rw [EE.out]
        obtain ⟨A9, c9, h9, _, o9, z9⟩ := (Row.empty wr 2 1 (IntC (sharesL l az alt k)) (show w.heap.size ≤ wr.heap.size by omega)).own
        exact ⟨⟨A9, c9, by rw [← h9]; rfl, o9, z9⟩, HBL.alloc (by omega) _⟩
      have q0 : ¬ sumTo (rawF l az alt) k = 0 := q
      have hS : 0 < sumTo (rawF l az alt) k := by omega
      have HQ := Lib.hid q
      clear q
      have jp : 0 < k := by
        rcases Nat.eq_zero_or_pos k with h | h
        · rw [h] at hS; exact absurd hS (Int.lt_irrefl _)
        · exact h
      obtain ⟨A5, c5, rfl, _, hown5, _⟩ := hrow.own
      rcases hown5 with ⟨_, h0⟩ | ⟨B5, m5, h5, rfl, hb5, hk5, hm5, hf5⟩
      · omega
      have a0 : IB wr B5 2 k (rawF l az alt) := ⟨m5, h5, hk5, by omega, fun x hx => hf5 x (by omega)⟩
      clear hk5 hm5 hf5 hrow
      go_wp2_with fail
      rw [show (sumTo (rawF l az alt) k == 0) = false by simpa using q0]
      clear q0
      generalize hV : World.alloc (World.alloc wr _) _ = w3
      have H3 : Below wr.heap.size wr w3 := by rw [← hV]; repeat (first | with_reducible exact Below.refl _ _ | with_reducible assumption | with_reducible refine Below.setCell ?_ (by simp <;> omega) _ | with_reducible refine Below.alloc ?_ (by simp <;> omega) _ | with_reducible refine Below.drew ?_)
      have z3 : w3.heap.size = wr.heap.size + 2 := by rw [← hV]; simp
      have o3 : Row w3 wr.heap.size 2 1 (.slice (some ⟨wr.heap.size, 0, none⟩) 0 0) 0 (IntC (quoF l az alt k)) := by rw [← hV]; exact (Row.empty wr 2 1 _ (Nat.le_refl _)).alloc _
      have p3 : Row w3 wr.heap.size 2 1 (.slice (some ⟨wr.heap.size + 1, 0, none⟩) 0 0) 0 (IntC (remF l az alt k)) := by
        have h := Row.empty (w := wr.alloc (.cells #[] 2)) (base := wr.heap.size) 2 1 (IntC (remF l az alt k)) (by simp)
        rw [hV] at h
        simpa using h
      have a3 := a0.below H3
      have HB3 : Below w.heap.size w w3 := HBL.trans (H3.mono (by omega))
      have b5 := a0.lt
      clear hV
      obtain ⟨O, hO⟩ : ∃ O, O = wr.heap.size := ⟨_, rfl⟩
      rw [← hO] at p3 o3 z3 b5 hsz H3 ⊢
      have hO2 : w.heap.size + 1 ≤ O := by omega
      clear hO a0
      obtain ⟨wq, rfl⟩ : ∃ wq : World, wq = wr := ⟨_, rfl⟩
      go_loopw [9, 10, 11, 12] (fun vo vr s i wr => ∃ (j P Q co cr : Nat), j ≤ k ∧ i = .int .i64 (j : Int) ∧ s = .int .i64 (1000 - sumTo (quoF l az alt k) j) ∧ vo = .slice (some ⟨P, 0, none⟩) j co ∧ vr = .slice (some ⟨Q, 0, none⟩) j cr ∧ P ≠ Q ∧ P < wr.heap.size ∧ Q < wr.heap.size ∧ Row wr O 2 1 (.slice (some ⟨P, 0, none⟩) j co) j (IntC (quoF l az alt k)) ∧ Row wr O 2 1 (.slice (some ⟨Q, 0, none⟩) j cr) j (IntC (remF l az alt k)) ∧ Below O w3 wr) (fun _ _ _ i _ => k - (intOf i).toNat)
      case atStart => exact ⟨0, O, O + 1, 0, 0, Nat.zero_le _, rfl, rfl, rfl, rfl, by omega, by omega, by omega, o3, p3, Below.refl _ _⟩
      case round =>
        obtain ⟨j, P, Q, co, cr, hj, rfl, rfl, rfl, rfl, hPQ, hP1, hQ1, ho2, hr2, hbl2⟩ := hrel
        obtain ⟨e0, e1⟩ := quoS_bd (az := az) (alt := alt) HF HQ.out hj
        have hsz2 := hbl2.size
        have a2 : IB wr B5 2 k (rawF l az alt) := by
          obtain ⟨m, f, hkk, r⟩ := a3
          exact ⟨m, f, hkk.below hbl2 b5, r⟩
        by_cases hlt2 : j < k
        · obtain ⟨rf0, rf1⟩ := rawF_bd (az := az) (alt := alt) HF hlt2
          obtain ⟨qs0, qs1⟩ := quo_small rf0 rf1 hS
          have s0 := a2.cell hlt2
          have b6 := a2.lt
          have HO1 := Lib.hid (show IntC (quoF l az alt k) (j * 1 + 0) = .int .i64 (1000 * rawF l az alt j / sumTo (rawF l az alt) k) by rw [Nat.mul_one]; rfl)
          have HO2 := Lib.hid (show IntC (remF l az alt k) (j * 1 + 0) = .int .i64 (1000 * rawF l az alt j % sumTo (rawF l az alt) k) by rw [Nat.mul_one]; rfl)
          go_wp2_with (at_builtin; refine wpList_append_at rfl _ _ 32 rfl O 2 i0 _ 1 8 Tryd.underlying32 hi hz0 hz1 hz2 rfl (by decide) _ j (IntC (quoF l az alt k)) rfl (ho2.alloc _) _ 1 rfl (int_news (by simp) HO1.out) (int_one HO1.out) (by omega) (by omega) (by simp; omega) ?_)
          intro P6 co6 w6 ho6 hg6 hor6 hP6
          have hb6 := Row.after (hbl2.alloc (by omega) _) (Nat.le_refl _) (by simp; omega) (ho2.alloc _) hg6 ho6
          have hr6 := (hr2.alloc (.cells #[.int .i64 (1000 * rawF l az alt j / sumTo (rawF l az alt) k)] 2)).kept hg6 (fun q hq e => by
            simp [Value.ownBlock] at hq e
            omega)
          have hPQ6 : P6 ≠ Q := by
            rcases hor6 with h | h
            · simp [Value.ownBlock] at h
              omega
            · rw [h]; simp; omega
          have hQ6 : Q < w6.heap.size := by
            have := hg6.size
            simp at this
            omega
          have a6 : IB w6 B5 2 k (rawF l az alt) := by
            obtain ⟨m, f, hkk, r⟩ := a3
            exact ⟨m, f, hkk.below hb6 b5, r⟩
          have s6 := a6.cell hlt2
          have b7 := a6.lt
          clear hg6 hor6 s0 b6
          go_wp2_with (at_builtin; refine wpList_append_at rfl _ _ 32 rfl O 2 i0 _ 1 8 Tryd.underlying32 hi hz0 hz1 hz2 rfl (by decide) _ j (IntC (remF l az alt k)) rfl (hr6.alloc _) _ 1 rfl (int_news (by simp) HO2.out) (int_one HO2.out) (by omega) (by omega) (by simp; have := hb6.size; omega) ?_)
          intro Q7 cr7 w7 hr7 hg7 hor7 hQ7
          have hb7 := Row.after (hb6.alloc (by have := hb6.size; omega) _) (Nat.le_refl _) (by simp; have := hb6.size; omega) (hr6.alloc _) hg7 hr7
          have ho7 := (ho6.alloc (.cells #[.int .i64 (1000 * rawF l az alt j % sumTo (rawF l az alt) k)] 2)).kept hg7 (fun q hq e => by
            simp [Value.ownBlock] at hq e
            omega)
          have hPQ7 : P6 ≠ Q7 := by
            rcases hor7 with h | h
            · simp [Value.ownBlock] at h
              omega
            · rw [h]; simp; omega
          have hP7 : P6 < w7.heap.size := by
            have := hg7.size
            simp at this
            omega
          clear hg7 hor7 s6 b7
          go_wp2_with fail
          go_roundw
          case rel => exact ⟨j + 1, P6, Q7, co6, cr7, by omega, by go_num, ret_num (by show _ = 1000 - (sumTo (quoF l az alt k) j + 1000 * rawF l az alt j / sumTo (rawF l az alt) k); omega), rfl, rfl, hPQ7, hP7, hQ7, ho7, hr7, hb7⟩
          case measure => simp [intOf]; omega
        · obtain rfl : j = k := by omega
          obtain ⟨ho, hO3⟩ := IB.of_row ho2 jp
          obtain ⟨hpr, hO4⟩ := IB.of_row hr2 jp
          clear ho2 hr2
          have lb : leftN l az alt j ≤ 1000 ∧ -7000000 ≤ leftN l az alt j := by unfold leftN; omega
          obtain ⟨lb0, lb1⟩ := lb
          go_wp2_with fail
          have HB2 : Below w.heap.size w wr := HB3.trans (hbl2.mono (by omega))
          obtain ⟨wq2, rfl⟩ : ∃ q : World, q = wr := ⟨_, rfl⟩
          go_loopw [11] (fun s wr => ∃ t : Nat, s = .int .i64 (leftN l az alt j - (t : Int)) ∧ t ≤ (leftN l az alt j).toNat ∧ Below w.heap.size w wr ∧ IB wr P 2 j (stepO j (quoF l az alt j) (remF l az alt j) t).1 ∧ IB wr Q 2 j (stepO j (quoF l az alt j) (remF l az alt j) t).2) (fun s _ => (intOf s).toNat)
          case atStart => exact ⟨0, ret_num (by unfold leftN; simp), Nat.zero_le _, HB2, ho, hpr⟩
          case round =>
            obtain ⟨t, rfl, ht, hbl3, ho3, hp3⟩ := hrel
            have gp3 := hp3.lt
            by_cases hlt3 : t < (leftN l az alt j).toNat
            · have lp : 0 < leftN l az alt j - (t : Int) := by omega
              have hfb := stepO_bd (q := quoF l az alt j) (r := remF l az alt j) (m := 1001000) (fun x hx => quoF_bd (az := az) (alt := alt) HF HQ.out hx) t
              obtain ⟨R, hR⟩ : ∃ R, R = (stepO j (quoF l az alt j) (remF l az alt j) t).2 := ⟨_, rfl⟩
              obtain ⟨F, hF⟩ : ∃ F, F = (stepO j (quoF l az alt j) (remF l az alt j) t).1 := ⟨_, rfl⟩
              rw [← hF] at ho3 hfb
              rw [← hR] at hp3
              have HRF := Lib.hid (And.intro hR hF)
              clear hR hF
              go_wp2_with fail
              rw [show decide ((t : Int) < leftN l az alt j) = true from decide_eq_true (by omega)]
              obtain ⟨w4, rfl⟩ : ∃ q : World, q = wr := ⟨_, rfl⟩
              go_loopw [14, 15] (fun b i wr => ∃ x : Nat, 1 ≤ x ∧ x ≤ j ∧ i = .int .i64 (x : Int) ∧ b = .int .i64 ((bestTo R (x - 1) : Nat) : Int) ∧ Below w4.heap.size w4 wr) (fun _ i _ => j - (intOf i).toNat)
              case atStart => exact ⟨1, Nat.le_refl _, jp, rfl, rfl, Below.refl _ _⟩
              case round =>
                obtain ⟨x, hx1, hx, rfl, rfl, hbl4⟩ := hrel
                have hp4 := hp3.below hbl4
                have ho4 := ho3.below hbl4
                have bb := bestTo_le R (x - 1)
                have gp := hp4.lt
                have go4 := ho4.lt
                by_cases hlt4 : x < j
                · have s0 := hp4.cell hlt4
                  have s1 := hp4.cell (i := bestTo R (x - 1)) (by omega)
                  by_cases g : R (bestTo R (x - 1)) < R x
                  · have E := Lib.hid (best_next.1 g)
                    go_wp2_with fail
                    refine wp_region_ext (by kernel_rfl) (by kernel_rfl) ?_
                    repeat (go_big_quiet_step (fail))
                    refine wpQuiet_nil ?_
                    intro e1
                    have hbl5 := hbl4.trans (e1.below.mono hbl4.size)
                    go_wp2_with fail
                    go_roundw
                    case rel => exact ⟨x + 1, by omega, by omega, by go_num, ret_num (by rw [E.out]), hbl5⟩
                    case measure => simp [intOf]; omega
                  · have E := Lib.hid (best_next.2 g)
                    go_wp2_with fail
                    refine wp_region_ext (by kernel_rfl) (by kernel_rfl) ?_
                    repeat (go_big_quiet_step (fail))
                    refine wpQuiet_nil ?_
                    intro e1
                    have hbl5 := hbl4.trans (e1.below.mono hbl4.size)
                    go_wp2_with fail
                    go_roundw
                    case rel => exact ⟨x + 1, by omega, by omega, by go_num, ret_num (by rw [E.out]), hbl5⟩
                    case measure => simp [intOf]; omega
                · have hxj : x = j := by omega
                  have bj : bestTo R (x - 1) < j := by omega
                  obtain ⟨b, hb⟩ : ∃ b, b = bestTo R (x - 1) := ⟨_, rfl⟩
                  rw [← hb] at bj bb ⊢
                  have HB4 := Lib.hid (show b = bestTo R (j - 1) by rw [hb, hxj])
                  clear hb
                  have s0 := ho4.cell bj
                  have s1 := hp4.cell bj
                  have f0 : wr.frozen? ⟨P, b, none⟩ = false := ho4.frozen _
                  have f1 : wr.frozen? ⟨Q, b, none⟩ = false := hp4.frozen _
                  obtain ⟨fb0, fb1⟩ := hfb b bj
                  have hbl5 := hbl3.trans (hbl4.mono hbl3.size)
                  go_wp2_with fail
                  go_roundw
                  case rel =>
                    refine ⟨t + 1, ret_num (by omega), by omega, (hbl5.setCell (by simp; omega) _).setCell (by simp; omega) _, ?_, ?_⟩
                    · have h := (ho4.set b (F b + 1)).far (p := ⟨Q, b, none⟩) hPQ (.int .i64 (-1))
                      rw [HB4.out, HRF.out.1, HRF.out.2] at h
                      rw [HB4.out, HRF.out.1, HRF.out.2]
                      exact h
                    · have h := (hp4.far (p := ⟨P, b, none⟩) (fun e => hPQ e.symm) (.int .i64 (F b + 1))).set b (-1)
                      rw [HB4.out, HRF.out.1, HRF.out.2] at h
                      rw [HB4.out, HRF.out.1, HRF.out.2]
                      exact h
                  case measure => simp [intOf]; omega
            · have ht2 : t = (leftN l az alt j).toNat := by omega
              have EN := Lib.hid (show sharesN l az alt j = j from if_neg HQ.out)
              go_wp2_with fail
              go_ret
              rw [EN.out]
              rw [ht2] at ho3
              exact ⟨⟨some ⟨P, 0, none⟩, co, rfl, ho3.own (by omega), fun h => by cases h⟩, hbl3⟩
end Go.Proofs.YtkjnpnijplnoaaaDoor
