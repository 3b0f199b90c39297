/- Drawn masks. Conditions: the code is shorter than 2^20. -/
import Derived.Test.YthjllledhcfnhaaGreatDoorDrawList
import Derived.Test.YthjllledhcfnhaaGreatDoorMaskFns
import Derived.OwnWalk
namespace Go.Ks
open Go.RowKit Go.Lib
/-- a drawn mask's fields are small -/
def MkB (x : MaskD) : Prop := (-1000000 ≤ x.f0 ∧ x.f0 ≤ 1000000) ∧ (-1000000 ≤ x.f1 ∧ x.f1 ≤ 1000000) ∧ (-1000000 ≤ x.f2 ∧ x.f2 ≤ 1000000) ∧ (-1000000 ≤ x.f3 ∧ x.f3 ≤ 1000000) ∧ -1000000 ≤ x.f4 ∧ x.f4 ≤ 1000000
theorem MkB.ok {x : MaskD} (h : MkB x) : MaskOk x := by
  obtain ⟨⟨a1, a2⟩, ⟨b1, b2⟩, ⟨c1, c2⟩, ⟨d1, d2⟩, e1, e2⟩ := h
  exact ⟨⟨by omega, by omega⟩, ⟨by omega, by omega⟩, ⟨by omega, by omega⟩, ⟨by omega, by omega⟩, by omega, by omega⟩
theorem mkB {a b c d e : Int} (h0 : -1000000 ≤ a ∧ a ≤ 1000000) (h1 : -1000000 ≤ b ∧ b ≤ 1000000) (h2 : -1000000 ≤ c ∧ c ≤ 1000000) (h3 : -1000000 ≤ d ∧ d ≤ 1000000) (h4 : -1000000 ≤ e ∧ e ≤ 1000000) : MkB ⟨a, b, c, d, e⟩ := ⟨h0, h1, h2, h3, h4⟩
/-- one mask more -/
def addM (L : Nat → MaskD) (n : Nat) (x : MaskD) : Nat → MaskD := fun j => if j = n then x else L j
theorem addM_old {L : Nat → MaskD} {n : Nat} {x : MaskD} (j : Nat) (hj : j < n * 5) : MaskC L j = MaskC (addM L n x) j := by
  obtain ⟨q, hq⟩ := mod5 j
  rcases hq with rfl | rfl | rfl | rfl | rfl
  · rw [MaskC0, MaskC0]; unfold addM; rw [if_neg (by omega)]
  · rw [MaskC1, MaskC1]; unfold addM; rw [if_neg (by omega)]
  · rw [MaskC2, MaskC2]; unfold addM; rw [if_neg (by omega)]
  · rw [MaskC3, MaskC3]; unfold addM; rw [if_neg (by omega)]
  · rw [MaskC4, MaskC4]; unfold addM; rw [if_neg (by omega)]
theorem addM_new {W : World} {B : Nat} {L : Nat → MaskD} {n : Nat} {x : MaskD} {t : TypeId} (h : Blk W B t #[.int .i64 x.f0, .int .i64 x.f1, .int .i64 x.f2, .int .i64 x.f3, .int .i64 x.f4]) : ∀ j, j < 5 → W.cell? ⟨B, j, none⟩ = some (MaskC (addM L n x) (n * 5 + j)) := fun j hj => by
  match j, hj with
  | 0, _ => rw [h.cell 0, Nat.add_zero, MaskC0]; simp [addM]
  | 1, _ => rw [h.cell 1, MaskC1]; simp [addM]
  | 2, _ => rw [h.cell 2, MaskC2]; simp [addM]
  | 3, _ => rw [h.cell 3, MaskC3]; simp [addM]
  | 4, _ => rw [h.cell 4, MaskC4]; simp [addM]
theorem addM_all {P : MaskD → Prop} {L : Nat → MaskD} {n : Nat} {x : MaskD} (h : ∀ j, j < n → P (L j)) (h' : P x) : ∀ j, j < n + 1 → P (addM L n x j) := fun j hj => by
  unfold addM
  by_cases q : j = n
  · rw [if_pos q]; exact h'
  · rw [if_neg q]; exact h j (by omega)
theorem zeroM (j : Nat) : (fun j => #[Value.int .i64 0, .int .i64 0, .int .i64 0, .int .i64 0, .int .i64 0][j % 5]!) j = MaskC (fun _ => ⟨0, 0, 0, 0, 0⟩) j := by
  obtain ⟨q, hq⟩ := mod5 j
  rcases hq with rfl | rfl | rfl | rfl | rfl
  · rw [MaskC0]; simp only [Nat.mul_mod_left]; rfl
  · rw [MaskC1]; simp only [Nat.mul_add_mod_self_right]; rfl
  · rw [MaskC2]; simp only [Nat.mul_add_mod_self_right]; rfl
  · rw [MaskC3]; simp only [Nat.mul_add_mod_self_right]; rfl
  · rw [MaskC4]; simp only [Nat.mul_add_mod_self_right]; rfl
theorem msk_one (l : Nat → MaskD) (n j : Nat) (hj : j < 5) : (MaskC l (n * 5 + j)).oneCell' = true := by
  match j, hj with
  | 0, _ => rw [Nat.add_zero, MaskC0]; rfl
  | 1, _ => rw [MaskC1]; rfl
  | 2, _ => rw [MaskC2]; rfl
  | 3, _ => rw [MaskC3]; rfl
  | 4, _ => rw [MaskC4]; rfl
end Go.Ks
namespace Go.Proofs.YthjllledhcfnhaaGreatDoor
open Go.RowKit Go.Lib Go.Ks
theorem Tryz.infoMsk : (Tryz.prog.info? 122).map (fun i => (i.zero, i.size, i.bytes)) = some (some (.agg #[.int .i64 0, .int .i64 0, .int .i64 0, .int .i64 0, .int .i64 0]), 5, 40) := by kernel_rfl
/-- the state of a draw that sets up one struct at block P -/
structure Pt (w : World) (s : Nat) (A : Option Addr) (n c : Nat) (l : Nat → Int) (P : Nat) (t : TypeId) (k : Nat) (cp : Array Value) (wI : World) : Prop where
  g : w.grownBy wI (some s)
  src : Src wI s A n c l k
  p : Blk wI P t cp
  hs : s < w.heap.size
  hP : w.heap.size ≤ P
section
variable {w wI w2 : World} {s : Nat} {A : Option Addr} {n c : Nat} {l : Nat → Int} {P : Nat} {t : TypeId} {cp : Array Value} {k k' : Nat}
theorem Pt.alloc (h : Pt w s A n c l P t k cp wI) {o : Obj} (hV : wI.alloc o = w2) : Pt w s A n c l P t k cp w2 :=
  ⟨only_then h.g (bel_alloc hV), h.src.below (bel_alloc hV), h.p.below (bel_alloc hV) h.p.lt, h.hs, h.hP⟩
theorem Pt.draw (h : Pt w s A n c l P t k cp wI) (hs : Src w2 s A n c l k') (hg : wI.grownBy w2 (some s)) : Pt w s A n c l P t k' cp w2 :=
  ⟨h.g.trans hg, hs, blk_grown h.p hg (fun e => by injection e with e; have := h.hs; have := h.hP; omega), h.hs, h.hP⟩
theorem Pt.put (h : Pt w s A n c l P t k cp wI) (far : ∀ ad, A = some ad → 0 < n * 1 → ad.block < w.heap.size) (i : Nat) (v : Value) (hV : wI.setCell ⟨P, i, none⟩ v = w2) : Pt w s A n c l P t k (cp.setIfInBounds i v) w2 := by
  subst hV
  exact ⟨only_setCell h.g (.inr h.hP) v, h.src.grown (only_setCell (World.grownBy.refl wI (some P)) (p := ⟨P, i, none⟩) (.inl rfl) v) (fun b e => by injection e with e; subst e; exact ⟨by have := h.hs; have := h.hP; omega, fun ad he hm => by have := far ad he hm; have := h.hP; omega⟩), h.p.set_ i v, h.hs, h.hP⟩
end
/-- what a draw of masks leaves -/
def RetMk (w w' : World) (e : Ending) : Prop :=
  ∃ (A : Option Addr) (n c : Nat) (L : Nat → MaskD), e = .returned (.slice A n c) ∧ n ≤ 9 ∧ Own w' w.heap.size 122 5 A n (MaskC L) ∧ ∀ j, j < n → MkB (L j)
theorem rowM_ret {w w1 wr : World} {v : Value} {q : Nat} {L : Nat → MaskD} (hb : w.heap.size ≤ w1.heap.size) (hq : q ≤ 9) (row : Row wr w1.heap.size 122 5 v q (MaskC L)) (hL : ∀ j, j < q → MkB (L j)) : RetMk w wr (.returned v) := by
  obtain ⟨A, c, rfl, hc, hown, _⟩ := row.own
  exact ⟨A, q, c, L, rfl, hq, hown.mono hb, hL⟩
set_option maxRecDepth 100000 in
set_option maxHeartbeats 8000000 in
theorem l12DrawMasks_any (s : Nat) (A : Option Addr) (n c : Nat) (l : Nat → Int) (k : Nat) (w : World) (hn : n ≤ 1048576) (hk : k ≤ 800000) (h : Src w s A n c l k) :
    Calls Tryz.prog 44 #[.pointer (some ⟨s, 0, none⟩)] w fun e w' => RetMk w w' e ∧ Src w' s A n c l (k + 100) ∧ w.grownBy w' (some s) := by
  have hsl := h.lt
  have hA := code_lt h
  obtain ⟨i0, hi, hz0, hz1, hz2⟩ := info_parts Tryz.infoMsk
  go_enter Tryz.func44, Tryz.ntmps44
  go_wp2_with fail
  generalize hV : World.alloc w _ = w1
  have h1 := bel_alloc hV
  have r1 : Row w1 w.heap.size 122 5 (.slice (some ⟨w.heap.size, 0, none⟩) 0 0) 0 (MaskC (fun _ => ⟨0, 0, 0, 0, 0⟩)) := by rw [← hV]; exact Row.empty w _ _ _ (Nat.le_refl _)
  have g1 := only_of_below h1 (some s)
  have hs1 := h.below h1
  clear hV h1
  refine (pick_any s A n c l k 4 _ hn (by omega) (by decide) hs1).mono ?_
  rintro e w2 ⟨⟨p, rfl, p1, p2⟩, hs2, hg2⟩
  have r2 := r1.only hg2 hsl
  have g2 := g1.trans hg2
  clear r1 g1 hs1 hg2
  go_wp2_with fail
  go_loopw [3, 4, 5] (fun v i _ wr => ∃ (q M : Nat) (L : Nat → MaskD), q ≤ 3 ∧ M + q ≤ 3 ∧ i = .int .i64 (q : Int) ∧ Row wr w.heap.size 122 5 v M (MaskC L) ∧ (∀ j, j < M → MkB (L j)) ∧ Src wr s A n c l (k + 2 + 20 * (3 - q)) ∧ w.grownBy wr (some s)) (fun _ i _ _ => (intOf i).toNat)
  case atStart =>
    obtain ⟨q, rfl⟩ := Int.eq_ofNat_of_zero_le p1
    exact ⟨q, 0, _, by omega, by omega, rfl, r2, fun j hj => absurd hj (Nat.not_lt_zero _), hs2.more (by omega), g2⟩
  case round =>
    obtain ⟨q, M, L, hq, hM, rfl, row, hL, hsr, hg⟩ := hrel
    have HL := Lib.hid hL
    clear hL
    have gsz := hg.size
    have hslr := hsr.lt
    by_cases h0 : 0 < q
    · have h0' : (0 : Int) < (q : Int) := by omega
      have FAR := code_lt hsr
      go_wp2_with fail
      refine (l02Draw_any s A n c l (k + 2 + 20 * (3 - q)) _ hn (by omega) hsr).mono ?_
      rintro e w5 ⟨⟨a, rfl, a0, a1⟩, hs5, hg5⟩
      have sz5 := hg5.size
      go_wp2_with fail
      generalize hV : World.alloc w5 _ = w6
      have T : Pt wr s A n c l w5.heap.size 122 _ _ w6 := ⟨only_then hg5 (bel_alloc hV), hs5.below (bel_alloc hV), cells_alloc hV, hslr, sz5⟩
      obtain ⟨P, hP⟩ : ∃ P, P = w5.heap.size := ⟨_, rfl⟩
      rw [← hP] at T ⊢
      clear hV hs5 hg5 sz5 hP hsr
      refine (l02Draw_any s A n c l _ _ hn (by omega) T.src).mono ?_
      rintro e w7 ⟨⟨b, rfl, b0, b1⟩, hs7, hg7⟩
      replace T := T.draw hs7 hg7
      clear hs7 hg7
      have x0 := T.p
      have d0 := x0.cell 0
      have d1 := x0.cell 1
      have d2 := x0.cell 2
      have d3 := x0.cell 3
      have d4 := x0.cell 4
      simp at d0 d1 d2 d3 d4
      have dl := x0.lt
      have dg0 := x0.frozen 0
      have dg1 := x0.frozen 1
      have dg2 := x0.frozen 2
      have dg3 := x0.frozen 3
      have dg4 := x0.frozen 4
      clear x0
      go_wp2_with fail
      generalize hV : World.setCell _ _ _ = w8
      replace T := T.put FAR 1 _ hV
      clear d0 d1 d2 d3 d4 dl dg0 dg1 dg2 dg3 dg4
      clear hV
      refine (pick_any s A n c l _ 90001 _ hn (by omega) (by decide) T.src).mono ?_
      rintro e w9 ⟨⟨u, rfl, u0, u1⟩, hs9, hg9⟩
      replace T := T.draw hs9 hg9
      clear hs9 hg9
      have wr1 : IntKind.i64.wrap (u + 1) = u + 1 := by rw [IntKind.wrap_i64]; omega
      have x0 := T.p
      have d0 := x0.cell 0
      have d1 := x0.cell 1
      have d2 := x0.cell 2
      have d3 := x0.cell 3
      have d4 := x0.cell 4
      simp at d0 d1 d2 d3 d4
      have dl := x0.lt
      have dg0 := x0.frozen 0
      have dg1 := x0.frozen 1
      have dg2 := x0.frozen 2
      have dg3 := x0.frozen 3
      have dg4 := x0.frozen 4
      clear x0
      go_wp2_with fail
      generalize hV : World.setCell _ _ _ = w10
      replace T := T.put FAR 3 _ hV
      clear d0 d1 d2 d3 d4 dl dg0 dg1 dg2 dg3 dg4
      clear hV
      refine (pick_any s A n c l _ (u + 1) _ hn (by omega) (by omega) T.src).mono ?_
      rintro e w11 ⟨⟨t, rfl, t0, t1⟩, hs11, hg11⟩
      replace T := T.draw hs11 hg11
      clear hs11 hg11 wr1
      have x0 := T.p
      have d0 := x0.cell 0
      have d1 := x0.cell 1
      have d2 := x0.cell 2
      have d3 := x0.cell 3
      have d4 := x0.cell 4
      simp at d0 d1 d2 d3 d4
      have dl := x0.lt
      have dg0 := x0.frozen 0
      have dg1 := x0.frozen 1
      have dg2 := x0.frozen 2
      have dg3 := x0.frozen 3
      have dg4 := x0.frozen 4
      clear x0
      go_wp2_with fail
      have szw := T.g.size
      generalize hV : World.alloc _ _ = w12
      replace T := (T.put FAR 2 _ rfl).alloc hV
      have y := cells_alloc hV
      have yb : (w11.setCell ⟨P, 2, none⟩ (.int .i64 t)).heap.size = w11.heap.size := by simp [World.setCell]
      rw [yb] at y
      clear d0 d1 d2 d3 d4 dl dg0 dg1 dg2 dg3 dg4
      clear hV
      refine (among_any s A n c l _ w11.heap.size 5 5 (fun z => 0 ≤ z ∧ z ≤ 1000) _ hn (by omega) (by decide) ⟨y.lt, by omega⟩ ?_ T.src).mono ?_
      · intro j hj
        match j, hj with
        | 0, _ => exact ⟨_, y.cell 0, by decide⟩
        | 1, _ => exact ⟨_, y.cell 1, by decide⟩
        | 2, _ => exact ⟨_, y.cell 2, by decide⟩
        | 3, _ => exact ⟨_, y.cell 3, by decide⟩
        | 4, _ => exact ⟨_, y.cell 4, by decide⟩
      clear y yb szw
      rintro e w13 ⟨⟨z, rfl, z0, z1⟩, hs13, hg13⟩
      replace T := T.draw hs13 hg13
      clear hs13 hg13
      have x0 := T.p
      have d0 := x0.cell 0
      have d1 := x0.cell 1
      have d2 := x0.cell 2
      have d3 := x0.cell 3
      have d4 := x0.cell 4
      simp at d0 d1 d2 d3 d4
      have dl := x0.lt
      have dg0 := x0.frozen 0
      have dg1 := x0.frozen 1
      have dg2 := x0.frozen 2
      have dg3 := x0.frozen 3
      have dg4 := x0.frozen 4
      clear x0
      have T2 := T.put FAR 4 (.int .i64 z) rfl
      have rowr := row.only T2.g hsl
      have gw13 := hg.trans T2.g
      have gsz13 := gw13.size
      have hxb : MkB ⟨a, b, t, u, z⟩ := mkB (by omega) (by omega) (by omega) (by omega) (by omega)
      have hs13 := T2.src
      have yb : (w13.setCell ⟨P, 4, none⟩ (.int .i64 z)).heap.size = w13.heap.size := by simp [World.setCell]
      have rowc := rowr.congr (f' := MaskC (addM L M ⟨a, b, t, u, z⟩)) (fun j hj => addM_old j hj)
      have YB := Lib.hid yb
      have GS := Lib.hid gsz13
      clear T T2 row rowr hg gsz yb gsz13
      go_wp2_with (at_builtin; refine wpList_append_row rfl _ _ 33 rfl w.heap.size 122 i0 _ 5 40 Tryz.underlying33 hi hz0 hz1 hz2 rfl (by decide) _ M (MaskC (addM L M ⟨a, b, t, u, z⟩)) rfl (rowc.alloc _) w13.heap.size 1 rfl ?c1 (msk_one _ M) ?c3 ?c4 ?c5 ?_)
      case c1 =>
        have y := Blk.new (w13.setCell ⟨P, 4, none⟩ (.int .i64 z)) 122 #[.int .i64 a, .int .i64 b, .int .i64 t, .int .i64 u, .int .i64 z]
        rw [YB.out] at y
        exact addM_new y
      case c3 => omega
      case c4 => omega
      case c5 => exact Nat.le_trans GS.out (bel_alloc rfl).size
      intro v' w14 row14 hg14
      have gw14 := only_row (only_alloc gw13 _) (rowc.alloc _) (Nat.le_refl _) hg14
      have hs14 := draw_src hs13 hA hsl (Nat.le_refl _) (rowc.alloc _) rfl hg14
      clear hg14 rowc
      go_wp2_with fail
      go_roundw
      case rel => exact ⟨q - 1, M + 1, _, by omega, by omega, ret_num (by omega), row14, addM_all HL.out hxb, hs14.more (by omega), gw14⟩
      case measure => simp [intOf]; omega
    · obtain rfl : q = 0 := by omega
      go_wp2_with fail
      refine (pick_any s A n c l _ 18 _ hn (by omega) (by decide) hsr).mono ?_
      rintro e w5 ⟨⟨p, rfl, p0, p1⟩, hs5, hg5⟩
      have row5 := row.only hg5 hsl
      have gw5 := hg.trans hg5
      have gsz5 := gw5.size
      clear row hsr hg gsz hg5 hslr
      by_cases q0 : p = 0
      · subst q0
        clear p0 p1
        go_wp2_with fail
        generalize hV : World.alloc w5 _ = w6
        have h6 := bel_alloc hV
        have y6 : Blk w6 w5.heap.size 2 #[.int .i64 (-1), .int .i64 360000] := cells_alloc hV
        clear hV
        refine (among_any s A n c l _ w5.heap.size 2 2 (fun z => -1 ≤ z ∧ z ≤ 360000) _ hn (by omega) (by decide) ⟨y6.lt, by omega⟩ ?_ (hs5.below h6)).mono ?_
        · intro j hj
          match j, hj with
          | 0, _ => exact ⟨_, y6.cell 0, by decide⟩
          | 1, _ => exact ⟨_, y6.cell 1, by decide⟩
        rintro e w7 ⟨⟨t, rfl, t0, t1⟩, hs7, hg7⟩
        have gw7 := (only_then gw5 h6).trans hg7
        have gsz7 := gw7.size
        have row7 := (row5.below h6).only hg7 hsl
        clear y6 h6 hg7 hs5 gw5 row5 gsz5
        have hxb : MkB ⟨t, 0, 0, 5, 0⟩ := mkB (by omega) (by omega) (by omega) (by omega) (by omega)
        have rowc := row7.congr (f' := MaskC (addM L M ⟨t, 0, 0, 5, 0⟩)) (fun j hj => addM_old j hj)
        go_wp2_with (at_builtin; refine wpList_append_row rfl _ _ 33 rfl w.heap.size 122 i0 _ 5 40 Tryz.underlying33 hi hz0 hz1 hz2 rfl (by decide) _ M (MaskC (addM L M ⟨t, 0, 0, 5, 0⟩)) rfl (rowc.alloc _) w7.heap.size 1 rfl ?c1 (msk_one _ M) ?c3 ?c4 ?c5 ?_)
        case c1 => exact addM_new (Blk.new w7 _ _)
        case c3 => omega
        case c4 => omega
        case c5 => first | omega | (simp; omega)
        intro v' w8 row8 hg8
        have gw8 := only_row (only_alloc gw7 _) (rowc.alloc _) (Nat.le_refl _) hg8
        have hs8 := draw_src hs7 hA hsl (Nat.le_refl _) (rowc.alloc _) rfl hg8
        clear hg8
        go_wp2_with fail
        go_ret
        exact ⟨rowM_ret (Nat.le_refl _) (by omega) row8 (addM_all HL.out hxb), hs8.more (by omega), gw8⟩
      by_cases q1 : p = 1
      · subst q1
        clear p0 p1
        go_wp2_with fail
        generalize hV : World.alloc w5 _ = w6
        have h6 := bel_alloc hV
        have y6 : Blk w6 w5.heap.size 2 #[.int .i64 5, .int .i64 90001] := cells_alloc hV
        clear hV
        refine (among_any s A n c l _ w5.heap.size 2 2 (fun z => 5 ≤ z ∧ z ≤ 90001) _ hn (by omega) (by decide) ⟨y6.lt, by omega⟩ ?_ (hs5.below h6)).mono ?_
        · intro j hj
          match j, hj with
          | 0, _ => exact ⟨_, y6.cell 0, by decide⟩
          | 1, _ => exact ⟨_, y6.cell 1, by decide⟩
        rintro e w7 ⟨⟨t, rfl, t0, t1⟩, hs7, hg7⟩
        have gw7 := (only_then gw5 h6).trans hg7
        have gsz7 := gw7.size
        have row7 := (row5.below h6).only hg7 hsl
        clear y6 h6 hg7 hs5 gw5 row5 gsz5
        have hxb : MkB ⟨0, 0, 6, t, 0⟩ := mkB (by omega) (by omega) (by omega) (by omega) (by omega)
        have rowc := row7.congr (f' := MaskC (addM L M ⟨0, 0, 6, t, 0⟩)) (fun j hj => addM_old j hj)
        go_wp2_with (at_builtin; refine wpList_append_row rfl _ _ 33 rfl w.heap.size 122 i0 _ 5 40 Tryz.underlying33 hi hz0 hz1 hz2 rfl (by decide) _ M (MaskC (addM L M ⟨0, 0, 6, t, 0⟩)) rfl (rowc.alloc _) w7.heap.size 1 rfl ?c1 (msk_one _ M) ?c3 ?c4 ?c5 ?_)
        case c1 => exact addM_new (Blk.new w7 _ _)
        case c3 => omega
        case c4 => omega
        case c5 => first | omega | (simp; omega)
        intro v' w8 row8 hg8
        have gw8 := only_row (only_alloc gw7 _) (rowc.alloc _) (Nat.le_refl _) hg8
        have hs8 := draw_src hs7 hA hsl (Nat.le_refl _) (rowc.alloc _) rfl hg8
        clear hg8
        go_wp2_with fail
        go_ret
        exact ⟨rowM_ret (Nat.le_refl _) (by omega) row8 (addM_all HL.out hxb), hs8.more (by omega), gw8⟩
      by_cases q2 : p = 2
      · subst q2
        clear p0 p1
        go_wp2_with fail
        generalize hV : World.alloc w5 _ = w6
        have h6 := bel_alloc hV
        have y6 : Blk w6 w5.heap.size 2 #[.int .i64 (-1), .int .i64 1001] := cells_alloc hV
        clear hV
        refine (among_any s A n c l _ w5.heap.size 2 2 (fun z => -1 ≤ z ∧ z ≤ 1001) _ hn (by omega) (by decide) ⟨y6.lt, by omega⟩ ?_ (hs5.below h6)).mono ?_
        · intro j hj
          match j, hj with
          | 0, _ => exact ⟨_, y6.cell 0, by decide⟩
          | 1, _ => exact ⟨_, y6.cell 1, by decide⟩
        rintro e w7 ⟨⟨t, rfl, t0, t1⟩, hs7, hg7⟩
        have gw7 := (only_then gw5 h6).trans hg7
        have gsz7 := gw7.size
        have row7 := (row5.below h6).only hg7 hsl
        clear y6 h6 hg7 hs5 gw5 row5 gsz5
        have hxb : MkB ⟨0, 0, 0, 0, t⟩ := mkB (by omega) (by omega) (by omega) (by omega) (by omega)
        have rowc := row7.congr (f' := MaskC (addM L M ⟨0, 0, 0, 0, t⟩)) (fun j hj => addM_old j hj)
        go_wp2_with (at_builtin; refine wpList_append_row rfl _ _ 33 rfl w.heap.size 122 i0 _ 5 40 Tryz.underlying33 hi hz0 hz1 hz2 rfl (by decide) _ M (MaskC (addM L M ⟨0, 0, 0, 0, t⟩)) rfl (rowc.alloc _) w7.heap.size 1 rfl ?c1 (msk_one _ M) ?c3 ?c4 ?c5 ?_)
        case c1 => exact addM_new (Blk.new w7 _ _)
        case c3 => omega
        case c4 => omega
        case c5 => first | omega | (simp; omega)
        intro v' w8 row8 hg8
        have gw8 := only_row (only_alloc gw7 _) (rowc.alloc _) (Nat.le_refl _) hg8
        have hs8 := draw_src hs7 hA hsl (Nat.le_refl _) (rowc.alloc _) rfl hg8
        clear hg8
        go_wp2_with fail
        go_ret
        exact ⟨rowM_ret (Nat.le_refl _) (by omega) row8 (addM_all HL.out hxb), hs8.more (by omega), gw8⟩
      by_cases q3 : p = 3
      · subst q3
        clear p0 p1
        go_wp2_with fail
        generalize hV : World.alloc w5 _ = w6
        have h6 := bel_alloc hV
        have y6 : Blk w6 w5.heap.size 2 #[.int .i64 8, .int .i64 9] := cells_alloc hV
        clear hV
        refine (among_any s A n c l _ w5.heap.size 2 2 (fun z => 8 ≤ z ∧ z ≤ 9) _ hn (by omega) (by decide) ⟨y6.lt, by omega⟩ ?_ (hs5.below h6)).mono ?_
        · intro j hj
          match j, hj with
          | 0, _ => exact ⟨_, y6.cell 0, by decide⟩
          | 1, _ => exact ⟨_, y6.cell 1, by decide⟩
        rintro e w7 ⟨⟨t, rfl, t0, t1⟩, hs7, hg7⟩
        have gw7 := (only_then gw5 h6).trans hg7
        have gsz7 := gw7.size
        have row7 := (row5.below h6).only hg7 hsl
        clear y6 h6 hg7 hs5 gw5 row5 gsz5
        obtain ⟨K, rfl⟩ := Int.eq_ofNat_of_zero_le (show 0 ≤ t by omega)
        have hmk := fun W => run_make_rowN (P := Tryz.prog) 33 122 i0 _ Tryz.underlying33 hi hz0 .i64 .i64 K K (Nat.le_refl _) (by rw [hz2]; omega) (by omega) W
        rw [hz1] at hmk
        clear row7
        go_wp2_with fail
        go_ret
        refine ⟨⟨_, K, K, _, rfl, by omega, Own.blk (Blk.new w7 122 _) gsz7 (Nat.le_refl _) (fun j _ => zeroM j), fun j _ => mkB (by omega) (by omega) (by omega) (by omega) (by omega)⟩, hs7.below (bel_alloc rfl) |>.more (by omega), only_then gw7 (bel_alloc rfl)⟩
      · go_wp2_with fail
        go_ret
        exact ⟨rowM_ret (Nat.le_refl _) (by omega) row5 HL.out, hs5.more (by omega), gw5⟩
theorem code_sl {w : World} {A : Option Addr} {n : Nat} {l : Nat → Int} (hs : Sl w A (n * 1) (ByteC l)) : ∀ ad, A = some ad → 0 < n * 1 → ad.block < w.heap.size := fun ad e hm => by
  obtain ⟨b, off, e2, hb, _⟩ := hs hm
  rw [e] at e2
  injection e2 with e2
  rw [e2]
  exact hb
set_option maxRecDepth 100000 in
set_option maxHeartbeats 2000000 in
theorem drawMaskAt_any (A : Option Addr) (n c : Nat) (l : Nat → Int) (w : World) (hn : n ≤ 1048576) (hs : Sl w A (n * 1) (ByteC l)) (hl : ∀ j, j < n → 0 ≤ l j ∧ l j ≤ 255) :
    Calls Tryz.prog 12 #[.slice A n c] w fun e w' => (∃ (A0 : Option Addr) (n0 c0 : Nat) (L0 : Nat → MaskD) (x y : Int), e = .returned (.tuple #[.slice A0 n0 c0, .int .i64 x, .int .i64 y]) ∧ (n0 ≤ 9 ∧ Own w' w.heap.size 122 5 A0 n0 (MaskC L0) ∧ ∀ j, j < n0 → MkB (L0 j)) ∧ (-1 ≤ x ∧ x ≤ 360000) ∧ -1 ≤ y ∧ y ≤ 90001) ∧ Below w.heap.size w w' := by
  go_enter Tryz.func12, Tryz.ntmps12
  go_wp2_with fail
  refine (from_any A n c l _ hs hl (code_sl hs)).mono ?_
  rintro e w1 ⟨rfl, hs1, hb1⟩
  have sz1 := hs1.lt
  go_wp2_with fail
  refine (l12DrawMasks_any w.heap.size A n c l 0 _ hn (by omega) hs1).mono ?_
  rintro e w2 ⟨⟨A0, n0, c0, L0, rfl, h0, own0, kn0⟩, hs2, hg2⟩
  have sz2 := hg2.size
  go_wp2_with fail
  refine (l10DrawSpot_any w.heap.size A n c l _ _ hn (by omega) hs2).mono ?_
  rintro e w3 ⟨⟨x, y, rfl, hx, hy⟩, hs3, hg3⟩
  have own0' := own0.only hg3 (by omega)
  go_wp2_with fail
  (try simp only [Exit.inBlock, Exit.then])
  refine bodyPost_ret (results_tmp3 rfl _ _ _) rfl ?_
  exact ⟨⟨A0, n0, c0, L0, x, y, rfl, ⟨h0, own0'.mono (by omega), kn0⟩, hx, hy⟩, below_by (below_by hb1 hg2 (Nat.le_refl _)) hg3 (Nat.le_refl _)⟩
end Go.Proofs.YthjllledhcfnhaaGreatDoor
