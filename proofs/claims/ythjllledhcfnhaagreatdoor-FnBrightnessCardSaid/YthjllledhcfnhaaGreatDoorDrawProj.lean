/- Drawn projectors. Conditions: the code is shorter than 2^20. -/
import Derived.Test.YthjllledhcfnhaaGreatDoorDrawSt
import Derived.Test.YthjllledhcfnhaaGreatDoorDec
import Derived.Lib.ItoaLen
namespace Go.Ks
open Go.RowKit Go.Lib
/-- a drawn projector's fields are small -/
def PrB (x : ProjectorD) : Prop := x.f0.size ≤ 40 ∧ (-1000000 ≤ x.f1 ∧ x.f1 ≤ 1000000) ∧ (-1000000 ≤ x.f2 ∧ x.f2 ≤ 1000000) ∧ (-1000000 ≤ x.f3 ∧ x.f3 ≤ 1000000) ∧ -1000000 ≤ x.f4 ∧ x.f4 ≤ 1000000
/-- a projector that is drawn whole -/
def PrI (x : ProjectorD) : Prop := (0 ≤ x.f1 ∧ x.f1 ≤ 359999) ∧ (0 ≤ x.f2 ∧ x.f2 ≤ 90000) ∧ (5000 ≤ x.f3 ∧ x.f3 ≤ 120000) ∧ 1 ≤ x.f4 ∧ x.f4 ≤ 1000
theorem PrB.ok {x : ProjectorD} (h : PrB x) : ProjectorOk x := by
  obtain ⟨a, ⟨b1, b2⟩, ⟨c1, c2⟩, ⟨d1, d2⟩, e1, e2⟩ := h
  exact ⟨by omega, ⟨by omega, by omega⟩, ⟨by omega, by omega⟩, ⟨by omega, by omega⟩, by omega, by omega⟩
theorem PrI.b {x : ProjectorD} (h : PrI x) (h0 : x.f0.size ≤ 40) : PrB x := by
  obtain ⟨⟨b1, b2⟩, ⟨c1, c2⟩, ⟨d1, d2⟩, e1, e2⟩ := h
  exact ⟨h0, ⟨by omega, by omega⟩, ⟨by omega, by omega⟩, ⟨by omega, by omega⟩, by omega, by omega⟩
/-- one projector more -/
def addP (L : Nat → ProjectorD) (n : Nat) (x : ProjectorD) : Nat → ProjectorD := fun j => if j = n then x else L j
theorem mod5 (j : Nat) : ∃ q, j = q * 5 ∨ j = q * 5 + 1 ∨ j = q * 5 + 2 ∨ j = q * 5 + 3 ∨ j = q * 5 + 4 := ⟨j / 5, by omega⟩
theorem addP_old {L : Nat → ProjectorD} {n : Nat} {x : ProjectorD} (j : Nat) (hj : j < n * 5) : ProjectorC L j = ProjectorC (addP L n x) j := by
  obtain ⟨q, hq⟩ := mod5 j
  rcases hq with rfl | rfl | rfl | rfl | rfl
  · rw [ProjectorC0, ProjectorC0]; unfold addP; rw [if_neg (by omega)]
  · rw [ProjectorC1, ProjectorC1]; unfold addP; rw [if_neg (by omega)]
  · rw [ProjectorC2, ProjectorC2]; unfold addP; rw [if_neg (by omega)]
  · rw [ProjectorC3, ProjectorC3]; unfold addP; rw [if_neg (by omega)]
  · rw [ProjectorC4, ProjectorC4]; unfold addP; rw [if_neg (by omega)]
theorem addP_new {W : World} {B : Nat} {L : Nat → ProjectorD} {n : Nat} {x : ProjectorD} {t : TypeId} (h : Blk W B t #[.string x.f0, .int .i64 x.f1, .int .i64 x.f2, .int .i64 x.f3, .int .i64 x.f4]) : ∀ j, j < 5 → W.cell? ⟨B, j, none⟩ = some (ProjectorC (addP L n x) (n * 5 + j)) := fun j hj => by
  match j, hj with
  | 0, _ => rw [h.cell 0, Nat.add_zero, ProjectorC0]; simp [addP]
  | 1, _ => rw [h.cell 1, ProjectorC1]; simp [addP]
  | 2, _ => rw [h.cell 2, ProjectorC2]; simp [addP]
  | 3, _ => rw [h.cell 3, ProjectorC3]; simp [addP]
  | 4, _ => rw [h.cell 4, ProjectorC4]; simp [addP]
theorem addP_all {P : ProjectorD → Prop} {L : Nat → ProjectorD} {n : Nat} {x : ProjectorD} (h : ∀ j, j < n → P (L j)) (h' : P x) : ∀ j, j < n + 1 → P (addP L n x j) := fun j hj => by
  unfold addP
  by_cases q : j = n
  · rw [if_pos q]; exact h'
  · rw [if_neg q]; exact h j (by omega)
theorem prj_one (l : Nat → ProjectorD) (n j : Nat) (hj : j < 5) : (ProjectorC l (n * 5 + j)).oneCell' = true := by
  match j, hj with
  | 0, _ => rw [Nat.add_zero, ProjectorC0]; rfl
  | 1, _ => rw [ProjectorC1]; rfl
  | 2, _ => rw [ProjectorC2]; rfl
  | 3, _ => rw [ProjectorC3]; rfl
  | 4, _ => rw [ProjectorC4]; rfl
end Go.Ks
namespace Go.Proofs.YthjllledhcfnhaaGreatDoor
open Go.RowKit Go.Lib Go.Ks
theorem Tryz.infoPrj : (Tryz.prog.info? 125).map (fun i => (i.zero, i.size, i.bytes)) = some (some (.agg #[.string ⟨#[]⟩, .int .i64 0, .int .i64 0, .int .i64 0, .int .i64 0]), 5, 48) := by kernel_rfl
set_option maxRecDepth 100000 in
set_option maxHeartbeats 4000000 in
theorem l02Draw_any (s : Nat) (A : Option Addr) (n c : Nat) (l : Nat → Int) (k : Nat) (w : World) (hn : n ≤ 1048576) (hk : k ≤ 900000) (h : Src w s A n c l k) :
    Calls Tryz.prog 84 #[.pointer (some ⟨s, 0, none⟩)] w fun e w' => (∃ x : Int, e = .returned (.int .i64 x) ∧ 0 ≤ x ∧ x ≤ 359999) ∧ Src w' s A n c l (k + 4) ∧ w.grownBy w' (some s) := by
  have hs := h.lt
  go_enter Tryz.func84, Tryz.ntmps84
  go_wp2_with fail
  refine (pick_any s A n c l k 4 _ hn (by omega) (by decide) h).mono ?_
  rintro e w1 ⟨⟨p, rfl, p1, p2⟩, hs1, hg1⟩
  by_cases q0 : p = 0
  · subst q0
    go_wp2_with fail
    refine (pick_any s A n c l (k + 2) 24 _ hn (by omega) (by decide) hs1).mono ?_
    rintro e w2 ⟨⟨x, rfl, x1, x2⟩, hs2, hg2⟩
    have wr : IntKind.i64.wrap (x * 15000) = x * 15000 := by rw [IntKind.wrap_i64]; omega
    go_wp2_with fail
    go_ret
    exact ⟨⟨_, rfl, by omega, by omega⟩, hs2, hg1.trans hg2⟩
  by_cases q1 : p = 1
  · subst q1
    go_wp2_with fail
    refine (pick_any s A n c l (k + 2) 360 _ hn (by omega) (by decide) hs1).mono ?_
    rintro e w2 ⟨⟨x, rfl, x1, x2⟩, hs2, hg2⟩
    have wr : IntKind.i64.wrap (x * 1000) = x * 1000 := by rw [IntKind.wrap_i64]; omega
    go_wp2_with fail
    go_ret
    exact ⟨⟨_, rfl, by omega, by omega⟩, hs2, hg1.trans hg2⟩
  · go_wp2_with fail
    refine (pick_any s A n c l (k + 2) 360000 _ hn (by omega) (by decide) hs1).mono ?_
    rintro e w2 ⟨⟨x, rfl, x1, x2⟩, hs2, hg2⟩
    go_wp2_with fail
    go_ret
    exact ⟨⟨_, rfl, by omega, by omega⟩, hs2, hg1.trans hg2⟩
set_option maxRecDepth 100000 in
set_option maxHeartbeats 4000000 in
theorem l06DrawTurn_any (s : Nat) (A : Option Addr) (n c : Nat) (l : Nat → Int) (k : Nat) (w : World) (hn : n ≤ 1048576) (hk : k ≤ 890000) (h : Src w s A n c l k) :
    Calls Tryz.prog 85 #[.pointer (some ⟨s, 0, none⟩)] w fun e w' => (∃ x : Int, e = .returned (.int .i64 x) ∧ -1 ≤ x ∧ x ≤ 360000) ∧ Src w' s A n c l (k + 8) ∧ w.grownBy w' (some s) := by
  have hs := h.lt
  go_enter Tryz.func85, Tryz.ntmps85
  go_wp2_with fail
  refine (one_any s A n c l k 14 _ hn (by omega) (by decide) h).mono ?_
  rintro e w1 ⟨⟨b, rfl⟩, hs1, hg1⟩
  have sz1 := hg1.size
  cases b
  · go_wp2_with fail
    refine (l02Draw_any s A n c l (k + 2) _ hn (by omega) hs1).mono ?_
    rintro e w2 ⟨⟨x, rfl, x1, x2⟩, hs2, hg2⟩
    go_wp2_with fail
    go_ret
    exact ⟨⟨_, rfl, by omega, by omega⟩, hs2.more (by omega), hg1.trans hg2⟩
  · go_wp2_with fail
    generalize hV : World.alloc w1 _ = w2a
    have hw2a : Below w1.heap.size w1 w2a := by rw [← hV]; exact (Below.refl _ _).alloc (Nat.le_refl _) _
    have yw2a : Blk w2a w1.heap.size 2 #[.int .i64 (-1), .int .i64 0, .int .i64 359999, .int .i64 360000] := by rw [← hV]; exact Blk.new w1 _ _
    clear hV
    refine (among_any s A n c l (k + 2) w1.heap.size 4 4 (fun z => -1 ≤ z ∧ z ≤ 360000) _ hn (by omega) (by decide) ⟨yw2a.lt, by omega⟩ ?_ (hs1.below hw2a)).mono ?_
    · intro j hj
      match j, hj with
      | 0, _ => exact ⟨_, yw2a.cell 0, by decide⟩
      | 1, _ => exact ⟨_, yw2a.cell 1, by decide⟩
      | 2, _ => exact ⟨_, yw2a.cell 2, by decide⟩
      | 3, _ => exact ⟨_, yw2a.cell 3, by decide⟩
    rintro e w2 ⟨⟨t, rfl, t1, t2⟩, hs2, hg2⟩
    go_wp2_with fail
    go_ret
    exact ⟨⟨t, rfl, t1, t2⟩, hs2.more (by omega), (only_then hg1 hw2a).trans hg2⟩
set_option maxRecDepth 100000 in
set_option maxHeartbeats 4000000 in
theorem l10DrawSpot_any (s : Nat) (A : Option Addr) (n c : Nat) (l : Nat → Int) (k : Nat) (w : World) (hn : n ≤ 1048576) (hk : k ≤ 880000) (h : Src w s A n c l k) :
    Calls Tryz.prog 45 #[.pointer (some ⟨s, 0, none⟩)] w fun e w' => (∃ x y : Int, e = .returned (.tuple #[.int .i64 x, .int .i64 y]) ∧ (-1 ≤ x ∧ x ≤ 360000) ∧ -1 ≤ y ∧ y ≤ 90001) ∧ Src w' s A n c l (k + 12) ∧ w.grownBy w' (some s) := by
  have hs := h.lt
  go_enter Tryz.func45, Tryz.ntmps45
  go_wp2_with fail
  refine (l06DrawTurn_any s A n c l k _ hn (by omega) h).mono ?_
  rintro e w1 ⟨⟨x, rfl, x1, x2⟩, hs1, hg1⟩
  go_wp2_with fail
  refine (one_any s A n c l (k + 8) 12 _ hn (by omega) (by decide) hs1).mono ?_
  rintro e w2 ⟨⟨b, rfl⟩, hs2, hg2⟩
  have g2 := hg1.trans hg2
  have sz2 := g2.size
  cases b
  · go_wp2_with fail
    refine (pick_any s A n c l (k + 8 + 2) 90001 _ hn (by omega) (by decide) hs2).mono ?_
    rintro e w3 ⟨⟨y, rfl, y1, y2⟩, hs3, hg3⟩
    go_wp2_with fail
    go_ret2
    exact ⟨⟨_, _, rfl, ⟨x1, x2⟩, by omega, by omega⟩, hs3.more (by omega), g2.trans hg3⟩
  · go_wp2_with fail
    generalize hV : World.alloc w2 _ = w3a
    have hw3a : Below w2.heap.size w2 w3a := by rw [← hV]; exact (Below.refl _ _).alloc (Nat.le_refl _) _
    have yw3a : Blk w3a w2.heap.size 2 #[.int .i64 (-1), .int .i64 0, .int .i64 90000, .int .i64 90001] := by rw [← hV]; exact Blk.new w2 _ _
    clear hV
    refine (among_any s A n c l (k + 8 + 2) w2.heap.size 4 4 (fun z => -1 ≤ z ∧ z ≤ 90001) _ hn (by omega) (by decide) ⟨yw3a.lt, by omega⟩ ?_ (hs2.below hw3a)).mono ?_
    · intro j hj
      match j, hj with
      | 0, _ => exact ⟨_, yw3a.cell 0, by decide⟩
      | 1, _ => exact ⟨_, yw3a.cell 1, by decide⟩
      | 2, _ => exact ⟨_, yw3a.cell 2, by decide⟩
      | 3, _ => exact ⟨_, yw3a.cell 3, by decide⟩
    rintro e w3 ⟨⟨t, rfl, t1, t2⟩, hs3, hg3⟩
    go_wp2_with fail
    go_ret2
    exact ⟨⟨_, _, rfl, ⟨x1, x2⟩, t1, t2⟩, hs3.more (by omega), (only_then g2 hw3a).trans hg3⟩
set_option maxRecDepth 100000 in
set_option maxHeartbeats 4000000 in
theorem l10DrawOne_any (nm : ByteArray) (s : Nat) (A : Option Addr) (n c : Nat) (l : Nat → Int) (k : Nat) (w : World) (hn : n ≤ 1048576) (hk : k ≤ 890000) (h : Src w s A n c l k) :
    Calls Tryz.prog 113 #[.pointer (some ⟨s, 0, none⟩), .string nm] w fun e w' => (∃ x : ProjectorD, e = .returned (.agg #[.string x.f0, .int .i64 x.f1, .int .i64 x.f2, .int .i64 x.f3, .int .i64 x.f4]) ∧ PrI x ∧ x.f0 = nm) ∧ Src w' s A n c l (k + 20) ∧ w.grownBy w' (some s) := by
  have hs := h.lt
  have FAR := code_lt h
  go_enter Tryz.func113, Tryz.ntmps113
  go_wp2_with fail
  generalize hV : World.alloc w _ = w0
  have HB : Below w.heap.size w w0 := bel_alloc hV
  have r0 := cells_alloc hV
  clear hV
  refine (l02Draw_any s A n c l k _ hn (by omega) (h.below HB)).mono ?_
  rintro e w1 ⟨⟨a, rfl, a0, a1⟩, hs1, hg1⟩
  have g1 := (only_of_below HB (some s)).trans hg1
  have r1 := blk_grown r0 hg1 (fun e => by injection e with e; omega)
  have rl := r1.lt
  clear r0 HB
  go_wp2_with fail
  generalize hV : World.alloc w1 _ = w2
  have T : St w s A n c l w.heap.size w1.heap.size 125 _ _ _ w2 := ⟨only_then g1 (bel_alloc hV), hs1.below (bel_alloc hV), r1.below (bel_alloc hV) r1.lt, cells_alloc hV, hs, Nat.le_refl _, by omega, by omega⟩
  obtain ⟨P, hP⟩ : ∃ P, P = w1.heap.size := ⟨_, rfl⟩
  rw [← hP] at T ⊢
  clear hV hs1 hg1 g1 r1 rl hP
  refine (pick_any s A n c l (k + 4) 90001 _ hn (by omega) (by decide) T.src).mono ?_
  rintro e w3 ⟨⟨b, rfl, b0, b1⟩, hs3, hg3⟩
  replace T := T.draw hs3 hg3
  clear hs3 hg3
  have x0 := T.p
  have d0 := x0.cell 0
  have d1 := x0.cell 1
  have d2 := x0.cell 2
  have d3 := x0.cell 3
  have d4 := x0.cell 4
  simp at d0 d1 d2 d3 d4
  have dl := x0.lt
  have dg0 := x0.frozen 0
  have dg1 := x0.frozen 1
  have dg2 := x0.frozen 2
  have dg3 := x0.frozen 3
  have dg4 := x0.frozen 4
  clear x0
  go_wp2_with fail
  have szw4 := T.g.size
  generalize hV : World.alloc _ _ = w4a
  replace T := (T.put (.inr FAR) 2 _ rfl).alloc hV
  have yw4 : Blk w4a w3.heap.size 2 #[.int .i64 30000, .int .i64 60000, .int .i64 90000, .int .i64 120000, .int .i64 45000, .int .i64 5000] := by have y := cells_alloc hV; simpa using y
  clear hV
  refine (among_any s A n c l _ w3.heap.size 6 6 (fun z => 5000 ≤ z ∧ z ≤ 120000) _ hn (by omega) (by decide) ⟨yw4.lt, by omega⟩ ?_ T.src).mono ?_
  · intro j hj
    match j, hj with
    | 0, _ => exact ⟨_, yw4.cell 0, by decide⟩
    | 1, _ => exact ⟨_, yw4.cell 1, by decide⟩
    | 2, _ => exact ⟨_, yw4.cell 2, by decide⟩
    | 3, _ => exact ⟨_, yw4.cell 3, by decide⟩
    | 4, _ => exact ⟨_, yw4.cell 4, by decide⟩
    | 5, _ => exact ⟨_, yw4.cell 5, by decide⟩
  clear yw4 szw4
  clear d0 d1 d2 d3 d4 dl dg0 dg1 dg2 dg3 dg4
  rintro e w5 ⟨⟨f, rfl, f0, f1⟩, hs5, hg5⟩
  replace T := T.draw hs5 hg5
  clear hs5 hg5
  have x0 := T.p
  have d0 := x0.cell 0
  have d1 := x0.cell 1
  have d2 := x0.cell 2
  have d3 := x0.cell 3
  have d4 := x0.cell 4
  simp at d0 d1 d2 d3 d4
  have dl := x0.lt
  have dg0 := x0.frozen 0
  have dg1 := x0.frozen 1
  have dg2 := x0.frozen 2
  have dg3 := x0.frozen 3
  have dg4 := x0.frozen 4
  clear x0
  go_wp2_with fail
  generalize hV : World.setCell _ _ _ = w6
  replace T := T.put (.inr FAR) 3 _ hV
  clear hV d0 d1 d2 d3 d4 dl dg0 dg1 dg2 dg3 dg4
  refine (pick_any s A n c l _ 1000 _ hn (by omega) (by decide) T.src).mono ?_
  rintro e w7 ⟨⟨q, rfl, q0, q1⟩, hs7, hg7⟩
  replace T := T.draw hs7 hg7
  clear hs7 hg7
  have x0 := T.p
  have d0 := x0.cell 0
  have d1 := x0.cell 1
  have d2 := x0.cell 2
  have d3 := x0.cell 3
  have d4 := x0.cell 4
  simp at d0 d1 d2 d3 d4
  have dl := x0.lt
  have dg0 := x0.frozen 0
  have dg1 := x0.frozen 1
  have dg2 := x0.frozen 2
  have dg3 := x0.frozen 3
  have dg4 := x0.frozen 4
  clear x0
  have x1 := T.r
  have u0 := x1.cell 0
  have u1 := x1.cell 1
  have u2 := x1.cell 2
  have u3 := x1.cell 3
  have u4 := x1.cell 4
  simp at u0 u1 u2 u3 u4
  have ul := x1.lt
  have ug0 := x1.frozen 0
  have ug1 := x1.frozen 1
  have ug2 := x1.frozen 2
  have ug3 := x1.frozen 3
  have ug4 := x1.frozen 4
  clear x1
  have ne1 : w.heap.size ≠ P := T.ne
  have ne2 : P ≠ w.heap.size := fun e => T.ne e.symm
  have wr : IntKind.i64.wrap (1 + q) = 1 + q := by rw [IntKind.wrap_i64]; omega
  go_wp2_with fail
  have TF := (((((T.put (.inr FAR) 4 (.int .i64 (1 + q)) rfl).putR (.inr FAR) 0 (.string nm) rfl).putR (.inr FAR) 1 (.int .i64 a) rfl).putR (.inr FAR) 2 (.int .i64 b) rfl).putR (.inr FAR) 3 (.int .i64 f) rfl).putR (.inr FAR) 4 (.int .i64 (1 + q)) rfl
  have x2 := TF.r
  have z0 := x2.cell 0
  have z1 := x2.cell 1
  have z2 := x2.cell 2
  have z3 := x2.cell 3
  have z4 := x2.cell 4
  simp at z0 z1 z2 z3 z4
  have zl := x2.lt
  refine bodyPost_ret (v := .agg #[.string nm, .int .i64 a, .int .i64 b, .int .i64 f, .int .i64 (1 + q)]) (by simp [results, Tryz.results113, go_sem, z0, z1, z2, z3, z4]) rfl ?_
  exact ⟨⟨⟨nm, a, b, f, 1 + q⟩, rfl, ⟨⟨a0, a1⟩, ⟨b0, by show b ≤ 90000; omega⟩, ⟨f0, f1⟩, by show 1 ≤ 1 + q; omega, by show 1 + q ≤ 1000; omega⟩, rfl⟩, TF.src.more (by omega), TF.g⟩
set_option maxRecDepth 100000 in
set_option maxHeartbeats 4000000 in
theorem l10Bend_any (x : ProjectorD) (hx : PrB x) (s : Nat) (A : Option Addr) (n c : Nat) (l : Nat → Int) (k : Nat) (w : World) (hn : n ≤ 1048576) (hk : k ≤ 880000) (h : Src w s A n c l k) :
    Calls Tryz.prog 114 #[.pointer (some ⟨s, 0, none⟩), .agg #[.string x.f0, .int .i64 x.f1, .int .i64 x.f2, .int .i64 x.f3, .int .i64 x.f4]] w fun e w' => (∃ x : ProjectorD, e = .returned (.agg #[.string x.f0, .int .i64 x.f1, .int .i64 x.f2, .int .i64 x.f3, .int .i64 x.f4]) ∧ PrB x) ∧ Src w' s A n c l (k + 4) ∧ w.grownBy w' (some s) := by
  have hs := h.lt
  have FAR := code_lt h
  obtain ⟨bx0, ⟨bx1, bx2⟩, ⟨bx3, bx4⟩, ⟨bx5, bx6⟩, bx7, bx8⟩ := hx
  go_enter Tryz.func114, Tryz.ntmps114
  go_wp2_with fail
  generalize hV : World.alloc (World.alloc w _) _ = w0
  have T := st_bend h hV
  clear hV
  refine (pick_any s A n c l _ 22 _ hn (by omega) (by decide) T.src).mono ?_
  rintro e w1 ⟨⟨p, rfl, p0, p1⟩, hs1, hg1⟩
  replace T := T.draw hs1 hg1
  clear hs1 hg1
  have ne1 : w.heap.size + 1 ≠ w.heap.size := by omega
  have ne2 : w.heap.size ≠ w.heap.size + 1 := by omega
  by_cases q0 : p = 0
  · subst q0
    clear p0 p1
    go_wp2_with fail
    have szw2 := T.g.size
    generalize hV : World.alloc _ _ = w2a
    replace T := T.alloc hV
    have yw2 : Blk w2a w1.heap.size 2 #[.int .i64 (-1), .int .i64 359999, .int .i64 360000] := by have y := cells_alloc hV; simpa using y
    clear hV
    refine (among_any s A n c l _ w1.heap.size 3 3 (fun z => -1000000 ≤ z ∧ z ≤ 1000000) _ hn (by omega) (by decide) ⟨yw2.lt, by omega⟩ ?_ T.src).mono ?_
    · intro j hj
      match j, hj with
      | 0, _ => exact ⟨_, yw2.cell 0, by decide⟩
      | 1, _ => exact ⟨_, yw2.cell 1, by decide⟩
      | 2, _ => exact ⟨_, yw2.cell 2, by decide⟩
    clear yw2 szw2
    rintro e w3 ⟨⟨f, rfl, f0, f1⟩, hs3, hg3⟩
    replace T := T.draw hs3 hg3
    clear hs3 hg3
    have x0 := T.p
    have d0 := x0.cell 0
    have d1 := x0.cell 1
    have d2 := x0.cell 2
    have d3 := x0.cell 3
    have d4 := x0.cell 4
    simp at d0 d1 d2 d3 d4
    have dl := x0.lt
    have dg0 := x0.frozen 0
    have dg1 := x0.frozen 1
    have dg2 := x0.frozen 2
    have dg3 := x0.frozen 3
    have dg4 := x0.frozen 4
    clear x0
    have x1 := T.r
    have u0 := x1.cell 0
    have u1 := x1.cell 1
    have u2 := x1.cell 2
    have u3 := x1.cell 3
    have u4 := x1.cell 4
    simp at u0 u1 u2 u3 u4
    have ul := x1.lt
    have ug0 := x1.frozen 0
    have ug1 := x1.frozen 1
    have ug2 := x1.frozen 2
    have ug3 := x1.frozen 3
    have ug4 := x1.frozen 4
    clear x1
    go_wp2_with fail
    have TF := ((((((T.put (.inr FAR) 1 (.int .i64 f) rfl).putR (.inr FAR) 0 (.string x.f0) rfl).putR (.inr FAR) 1 (.int .i64 f) rfl).putR (.inr FAR) 2 (.int .i64 x.f2) rfl).putR (.inr FAR) 3 (.int .i64 x.f3) rfl).putR (.inr FAR) 4 (.int .i64 x.f4) rfl)
    have x2 := TF.r
    have z0 := x2.cell 0
    have z1 := x2.cell 1
    have z2 := x2.cell 2
    have z3 := x2.cell 3
    have z4 := x2.cell 4
    simp at z0 z1 z2 z3 z4
    have zl := x2.lt
    refine bodyPost_ret (v := .agg #[.string x.f0, .int .i64 f, .int .i64 x.f2, .int .i64 x.f3, .int .i64 x.f4]) (by simp [results, Tryz.results114, go_sem, z0, z1, z2, z3, z4]) rfl ?_
    exact ⟨⟨⟨x.f0, f, x.f2, x.f3, x.f4⟩, rfl, ⟨by assumption, ⟨by assumption, by assumption⟩, ⟨by assumption, by assumption⟩, ⟨by assumption, by assumption⟩, by assumption, by assumption⟩⟩, TF.src.more (by omega), TF.g⟩
  by_cases q1 : p = 1
  · subst q1
    clear p0 p1
    go_wp2_with fail
    have szw2 := T.g.size
    generalize hV : World.alloc _ _ = w2a
    replace T := T.alloc hV
    have yw2 : Blk w2a w1.heap.size 2 #[.int .i64 (-90001), .int .i64 (-90000), .int .i64 90001] := by have y := cells_alloc hV; simpa using y
    clear hV
    refine (among_any s A n c l _ w1.heap.size 3 3 (fun z => -1000000 ≤ z ∧ z ≤ 1000000) _ hn (by omega) (by decide) ⟨yw2.lt, by omega⟩ ?_ T.src).mono ?_
    · intro j hj
      match j, hj with
      | 0, _ => exact ⟨_, yw2.cell 0, by decide⟩
      | 1, _ => exact ⟨_, yw2.cell 1, by decide⟩
      | 2, _ => exact ⟨_, yw2.cell 2, by decide⟩
    clear yw2 szw2
    rintro e w3 ⟨⟨f, rfl, f0, f1⟩, hs3, hg3⟩
    replace T := T.draw hs3 hg3
    clear hs3 hg3
    have x0 := T.p
    have d0 := x0.cell 0
    have d1 := x0.cell 1
    have d2 := x0.cell 2
    have d3 := x0.cell 3
    have d4 := x0.cell 4
    simp at d0 d1 d2 d3 d4
    have dl := x0.lt
    have dg0 := x0.frozen 0
    have dg1 := x0.frozen 1
    have dg2 := x0.frozen 2
    have dg3 := x0.frozen 3
    have dg4 := x0.frozen 4
    clear x0
    have x1 := T.r
    have u0 := x1.cell 0
    have u1 := x1.cell 1
    have u2 := x1.cell 2
    have u3 := x1.cell 3
    have u4 := x1.cell 4
    simp at u0 u1 u2 u3 u4
    have ul := x1.lt
    have ug0 := x1.frozen 0
    have ug1 := x1.frozen 1
    have ug2 := x1.frozen 2
    have ug3 := x1.frozen 3
    have ug4 := x1.frozen 4
    clear x1
    go_wp2_with fail
    have TF := ((((((T.put (.inr FAR) 2 (.int .i64 f) rfl).putR (.inr FAR) 0 (.string x.f0) rfl).putR (.inr FAR) 1 (.int .i64 x.f1) rfl).putR (.inr FAR) 2 (.int .i64 f) rfl).putR (.inr FAR) 3 (.int .i64 x.f3) rfl).putR (.inr FAR) 4 (.int .i64 x.f4) rfl)
    have x2 := TF.r
    have z0 := x2.cell 0
    have z1 := x2.cell 1
    have z2 := x2.cell 2
    have z3 := x2.cell 3
    have z4 := x2.cell 4
    simp at z0 z1 z2 z3 z4
    have zl := x2.lt
    refine bodyPost_ret (v := .agg #[.string x.f0, .int .i64 x.f1, .int .i64 f, .int .i64 x.f3, .int .i64 x.f4]) (by simp [results, Tryz.results114, go_sem, z0, z1, z2, z3, z4]) rfl ?_
    exact ⟨⟨⟨x.f0, x.f1, f, x.f3, x.f4⟩, rfl, ⟨by assumption, ⟨by assumption, by assumption⟩, ⟨by assumption, by assumption⟩, ⟨by assumption, by assumption⟩, by assumption, by assumption⟩⟩, TF.src.more (by omega), TF.g⟩
  by_cases q2 : p = 2
  · subst q2
    clear p0 p1
    go_wp2_with fail
    have szw2 := T.g.size
    generalize hV : World.alloc _ _ = w2a
    replace T := T.alloc hV
    have yw2 : Blk w2a w1.heap.size 2 #[.int .i64 4999, .int .i64 120001] := by have y := cells_alloc hV; simpa using y
    clear hV
    refine (among_any s A n c l _ w1.heap.size 2 2 (fun z => -1000000 ≤ z ∧ z ≤ 1000000) _ hn (by omega) (by decide) ⟨yw2.lt, by omega⟩ ?_ T.src).mono ?_
    · intro j hj
      match j, hj with
      | 0, _ => exact ⟨_, yw2.cell 0, by decide⟩
      | 1, _ => exact ⟨_, yw2.cell 1, by decide⟩
    clear yw2 szw2
    rintro e w3 ⟨⟨f, rfl, f0, f1⟩, hs3, hg3⟩
    replace T := T.draw hs3 hg3
    clear hs3 hg3
    have x0 := T.p
    have d0 := x0.cell 0
    have d1 := x0.cell 1
    have d2 := x0.cell 2
    have d3 := x0.cell 3
    have d4 := x0.cell 4
    simp at d0 d1 d2 d3 d4
    have dl := x0.lt
    have dg0 := x0.frozen 0
    have dg1 := x0.frozen 1
    have dg2 := x0.frozen 2
    have dg3 := x0.frozen 3
    have dg4 := x0.frozen 4
    clear x0
    have x1 := T.r
    have u0 := x1.cell 0
    have u1 := x1.cell 1
    have u2 := x1.cell 2
    have u3 := x1.cell 3
    have u4 := x1.cell 4
    simp at u0 u1 u2 u3 u4
    have ul := x1.lt
    have ug0 := x1.frozen 0
    have ug1 := x1.frozen 1
    have ug2 := x1.frozen 2
    have ug3 := x1.frozen 3
    have ug4 := x1.frozen 4
    clear x1
    go_wp2_with fail
    have TF := ((((((T.put (.inr FAR) 3 (.int .i64 f) rfl).putR (.inr FAR) 0 (.string x.f0) rfl).putR (.inr FAR) 1 (.int .i64 x.f1) rfl).putR (.inr FAR) 2 (.int .i64 x.f2) rfl).putR (.inr FAR) 3 (.int .i64 f) rfl).putR (.inr FAR) 4 (.int .i64 x.f4) rfl)
    have x2 := TF.r
    have z0 := x2.cell 0
    have z1 := x2.cell 1
    have z2 := x2.cell 2
    have z3 := x2.cell 3
    have z4 := x2.cell 4
    simp at z0 z1 z2 z3 z4
    have zl := x2.lt
    refine bodyPost_ret (v := .agg #[.string x.f0, .int .i64 x.f1, .int .i64 x.f2, .int .i64 f, .int .i64 x.f4]) (by simp [results, Tryz.results114, go_sem, z0, z1, z2, z3, z4]) rfl ?_
    exact ⟨⟨⟨x.f0, x.f1, x.f2, f, x.f4⟩, rfl, ⟨by assumption, ⟨by assumption, by assumption⟩, ⟨by assumption, by assumption⟩, ⟨by assumption, by assumption⟩, by assumption, by assumption⟩⟩, TF.src.more (by omega), TF.g⟩
  by_cases q3 : p = 3
  · subst q3
    clear p0 p1
    go_wp2_with fail
    have szw2 := T.g.size
    generalize hV : World.alloc _ _ = w2a
    replace T := T.alloc hV
    have yw2 : Blk w2a w1.heap.size 2 #[.int .i64 0, .int .i64 1001] := by have y := cells_alloc hV; simpa using y
    clear hV
    refine (among_any s A n c l _ w1.heap.size 2 2 (fun z => -1000000 ≤ z ∧ z ≤ 1000000) _ hn (by omega) (by decide) ⟨yw2.lt, by omega⟩ ?_ T.src).mono ?_
    · intro j hj
      match j, hj with
      | 0, _ => exact ⟨_, yw2.cell 0, by decide⟩
      | 1, _ => exact ⟨_, yw2.cell 1, by decide⟩
    clear yw2 szw2
    rintro e w3 ⟨⟨f, rfl, f0, f1⟩, hs3, hg3⟩
    replace T := T.draw hs3 hg3
    clear hs3 hg3
    have x0 := T.p
    have d0 := x0.cell 0
    have d1 := x0.cell 1
    have d2 := x0.cell 2
    have d3 := x0.cell 3
    have d4 := x0.cell 4
    simp at d0 d1 d2 d3 d4
    have dl := x0.lt
    have dg0 := x0.frozen 0
    have dg1 := x0.frozen 1
    have dg2 := x0.frozen 2
    have dg3 := x0.frozen 3
    have dg4 := x0.frozen 4
    clear x0
    have x1 := T.r
    have u0 := x1.cell 0
    have u1 := x1.cell 1
    have u2 := x1.cell 2
    have u3 := x1.cell 3
    have u4 := x1.cell 4
    simp at u0 u1 u2 u3 u4
    have ul := x1.lt
    have ug0 := x1.frozen 0
    have ug1 := x1.frozen 1
    have ug2 := x1.frozen 2
    have ug3 := x1.frozen 3
    have ug4 := x1.frozen 4
    clear x1
    go_wp2_with fail
    have TF := ((((((T.put (.inr FAR) 4 (.int .i64 f) rfl).putR (.inr FAR) 0 (.string x.f0) rfl).putR (.inr FAR) 1 (.int .i64 x.f1) rfl).putR (.inr FAR) 2 (.int .i64 x.f2) rfl).putR (.inr FAR) 3 (.int .i64 x.f3) rfl).putR (.inr FAR) 4 (.int .i64 f) rfl)
    have x2 := TF.r
    have z0 := x2.cell 0
    have z1 := x2.cell 1
    have z2 := x2.cell 2
    have z3 := x2.cell 3
    have z4 := x2.cell 4
    simp at z0 z1 z2 z3 z4
    have zl := x2.lt
    refine bodyPost_ret (v := .agg #[.string x.f0, .int .i64 x.f1, .int .i64 x.f2, .int .i64 x.f3, .int .i64 f]) (by simp [results, Tryz.results114, go_sem, z0, z1, z2, z3, z4]) rfl ?_
    exact ⟨⟨⟨x.f0, x.f1, x.f2, x.f3, f⟩, rfl, ⟨by assumption, ⟨by assumption, by assumption⟩, ⟨by assumption, by assumption⟩, ⟨by assumption, by assumption⟩, by assumption, by assumption⟩⟩, TF.src.more (by omega), TF.g⟩
  by_cases q4 : p = 4
  · subst q4
    clear p0 p1
    go_wp2_with fail
    have szw2 := T.g.size
    generalize hV : World.alloc _ _ = w2a
    replace T := T.alloc hV
    have yw2 : Blk w2a w1.heap.size 9 #[.string ⟨#[]⟩, .string ⟨#[80]⟩] := by have y := cells_alloc hV; simpa using y
    clear hV
    refine (text_any s A n c l _ w1.heap.size 2 2 (fun z => z.size ≤ 40) _ hn (by omega) (by decide) ⟨yw2.lt, by omega⟩ ?_ T.src).mono ?_
    · intro j hj
      match j, hj with
      | 0, _ => exact ⟨_, yw2.cell 0, by decide⟩
      | 1, _ => exact ⟨_, yw2.cell 1, by decide⟩
    clear yw2 szw2
    rintro e w3 ⟨⟨f, rfl, f0⟩, hs3, hg3⟩
    replace T := T.draw hs3 hg3
    clear hs3 hg3
    have x0 := T.p
    have d0 := x0.cell 0
    have d1 := x0.cell 1
    have d2 := x0.cell 2
    have d3 := x0.cell 3
    have d4 := x0.cell 4
    simp at d0 d1 d2 d3 d4
    have dl := x0.lt
    have dg0 := x0.frozen 0
    have dg1 := x0.frozen 1
    have dg2 := x0.frozen 2
    have dg3 := x0.frozen 3
    have dg4 := x0.frozen 4
    clear x0
    have x1 := T.r
    have u0 := x1.cell 0
    have u1 := x1.cell 1
    have u2 := x1.cell 2
    have u3 := x1.cell 3
    have u4 := x1.cell 4
    simp at u0 u1 u2 u3 u4
    have ul := x1.lt
    have ug0 := x1.frozen 0
    have ug1 := x1.frozen 1
    have ug2 := x1.frozen 2
    have ug3 := x1.frozen 3
    have ug4 := x1.frozen 4
    clear x1
    go_wp2_with fail
    have TF := ((((((T.put (.inr FAR) 0 (.string f) rfl).putR (.inr FAR) 0 (.string f) rfl).putR (.inr FAR) 1 (.int .i64 x.f1) rfl).putR (.inr FAR) 2 (.int .i64 x.f2) rfl).putR (.inr FAR) 3 (.int .i64 x.f3) rfl).putR (.inr FAR) 4 (.int .i64 x.f4) rfl)
    have x2 := TF.r
    have z0 := x2.cell 0
    have z1 := x2.cell 1
    have z2 := x2.cell 2
    have z3 := x2.cell 3
    have z4 := x2.cell 4
    simp at z0 z1 z2 z3 z4
    have zl := x2.lt
    refine bodyPost_ret (v := .agg #[.string f, .int .i64 x.f1, .int .i64 x.f2, .int .i64 x.f3, .int .i64 x.f4]) (by simp [results, Tryz.results114, go_sem, z0, z1, z2, z3, z4]) rfl ?_
    exact ⟨⟨⟨f, x.f1, x.f2, x.f3, x.f4⟩, rfl, ⟨by assumption, ⟨by assumption, by assumption⟩, ⟨by assumption, by assumption⟩, ⟨by assumption, by assumption⟩, by assumption, by assumption⟩⟩, TF.src.more (by omega), TF.g⟩
  clear p0 p1
  have x0 := T.p
  have d0 := x0.cell 0
  have d1 := x0.cell 1
  have d2 := x0.cell 2
  have d3 := x0.cell 3
  have d4 := x0.cell 4
  simp at d0 d1 d2 d3 d4
  have dl := x0.lt
  have dg0 := x0.frozen 0
  have dg1 := x0.frozen 1
  have dg2 := x0.frozen 2
  have dg3 := x0.frozen 3
  have dg4 := x0.frozen 4
  clear x0
  have x1 := T.r
  have u0 := x1.cell 0
  have u1 := x1.cell 1
  have u2 := x1.cell 2
  have u3 := x1.cell 3
  have u4 := x1.cell 4
  simp at u0 u1 u2 u3 u4
  have ul := x1.lt
  have ug0 := x1.frozen 0
  have ug1 := x1.frozen 1
  have ug2 := x1.frozen 2
  have ug3 := x1.frozen 3
  have ug4 := x1.frozen 4
  clear x1
  go_wp2_with fail
  have TF := (((((T.putR (.inr FAR) 0 (.string x.f0) rfl).putR (.inr FAR) 1 (.int .i64 x.f1) rfl).putR (.inr FAR) 2 (.int .i64 x.f2) rfl).putR (.inr FAR) 3 (.int .i64 x.f3) rfl).putR (.inr FAR) 4 (.int .i64 x.f4) rfl)
  have x2 := TF.r
  have z0 := x2.cell 0
  have z1 := x2.cell 1
  have z2 := x2.cell 2
  have z3 := x2.cell 3
  have z4 := x2.cell 4
  simp at z0 z1 z2 z3 z4
  have zl := x2.lt
  refine bodyPost_ret (v := .agg #[.string x.f0, .int .i64 x.f1, .int .i64 x.f2, .int .i64 x.f3, .int .i64 x.f4]) (by simp [results, Tryz.results114, go_sem, z0, z1, z2, z3, z4]) rfl ?_
  exact ⟨⟨⟨x.f0, x.f1, x.f2, x.f3, x.f4⟩, rfl, ⟨by assumption, ⟨by assumption, by assumption⟩, ⟨by assumption, by assumption⟩, ⟨by assumption, by assumption⟩, by assumption, by assumption⟩⟩, TF.src.more (by omega), TF.g⟩
end Go.Proofs.YthjllledhcfnhaaGreatDoor
