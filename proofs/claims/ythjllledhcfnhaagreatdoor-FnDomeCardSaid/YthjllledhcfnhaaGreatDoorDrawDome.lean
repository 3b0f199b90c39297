/- A drawn dome is valid. Conditions: the code is shorter than 2^20. -/
import Derived.Test.YthjllledhcfnhaaGreatDoorDrawSt
import Derived.Test.YthjllledhcfnhaaGreatDoorDomeSpec
namespace Go.Proofs.YthjllledhcfnhaaGreatDoor
open Go.RowKit Go.Lib Go.Ks
/-- what is known of a drawn dome -/
def DomB (x : DomeD) : Prop := domeB x = true ∧ (3000 ≤ x.f1 ∧ x.f1 ≤ 11999) ∧ x.f0.size ≤ 40 ∧ (x.f2 = 0 ∨ x.f2 = 5000 ∨ x.f2 = 15000 ∨ x.f2 = 30000 ∨ x.f2 = 45000)
theorem name_north : NameOk ⟨#[110, 111, 114, 116, 104]⟩ ∧ NameOk ⟨#[109, 97, 105, 110]⟩ ∧ NameOk ⟨#[100, 111, 109, 101, 50]⟩ := by
  unfold NameOk
  decide
set_option maxRecDepth 100000 in
set_option maxHeartbeats 4000000 in
theorem l09Draw_any (s : Nat) (A : Option Addr) (n c : Nat) (l : Nat → Int) (k : Nat) (w : World) (hn : n ≤ 1048576) (hk : k ≤ 890000) (h : Src w s A n c l k) :
    Calls Tryz.prog 55 #[.pointer (some ⟨s, 0, none⟩)] w fun e w' => (∃ x : DomeD, e = .returned (.agg #[.string x.f0, .int .i64 x.f1, .int .i64 x.f2]) ∧ DomB x) ∧ Src w' s A n c l (k + 20) ∧ w.grownBy w' (some s) := by
  have hs := h.lt
  have FAR := code_lt h
  go_enter Tryz.func55, Tryz.ntmps55
  go_wp2_with fail
  generalize hU : World.alloc w _ = wa
  have ra := cells_alloc hU
  have ha := bel_alloc hU
  have hza : wa.heap.size = w.heap.size + 1 := by rw [← hU]; simp
  clear hU
  generalize hV : World.alloc wa _ = wb
  have hb := bel_alloc hV
  have yb : Blk wb (w.heap.size + 1) 9 #[.string ⟨#[110, 111, 114, 116, 104]⟩, .string ⟨#[109, 97, 105, 110]⟩, .string ⟨#[100, 111, 109, 101, 50]⟩] := by rw [← hza]; exact cells_alloc hV
  clear hV hza
  have rb := ra.below hb ra.lt
  have gb := (only_of_below ha (some s)).trans (only_of_below hb (some s))
  refine (text_any s A n c l k (w.heap.size + 1) 3 3 (fun z => NameOk z ∧ z.size ≤ 40) _ hn (by omega) (by decide) ⟨yb.lt, by omega⟩ ?_ ((h.below ha).below hb)).mono ?_
  · intro j hj
    match j, hj with
    | 0, _ => exact ⟨_, yb.cell 0, name_north.1, by decide⟩
    | 1, _ => exact ⟨_, yb.cell 1, name_north.2.1, by decide⟩
    | 2, _ => exact ⟨_, yb.cell 2, name_north.2.2, by decide⟩
  rintro e w1 ⟨⟨nm, rfl, hnm, hnz⟩, hs1, hg1⟩
  have g1 := gb.trans hg1
  have r1 := blk_grown rb hg1 (fun e => by injection e with e; omega)
  have HNM := Lib.hid hnm
  clear yb rb gb ha hb hg1 ra hnm
  go_wp2_with fail
  refine (pick_any s A n c l _ 9000 _ hn (by omega) (by decide) hs1).mono ?_
  rintro e w2 ⟨⟨p, rfl, p0, p1⟩, hs2, hg2⟩
  have g2 := g1.trans hg2
  have r2 := blk_grown r1 hg2 (fun e => by injection e with e; omega)
  clear hs1 hg2 g1 r1
  have rl := r2.lt
  have wr : IntKind.i64.wrap (3000 + p) = 3000 + p := by rw [IntKind.wrap_i64]; omega
  go_wp2_with fail
  generalize hV : World.alloc w2 _ = w3
  have T : St w s A n c l w.heap.size w2.heap.size 46 _ _ _ w3 := ⟨only_then g2 (bel_alloc hV), hs2.below (bel_alloc hV), r2.below (bel_alloc hV) r2.lt, cells_alloc hV, hs, Nat.le_refl _, by omega, by omega⟩
  have hz3 : w3.heap.size = w2.heap.size + 1 := by rw [← hV]; simp
  obtain ⟨P, hP⟩ : ∃ P, P = w2.heap.size := ⟨_, rfl⟩
  rw [← hP] at T hz3 ⊢
  clear hV hs2 g2 r2 rl hP
  have sz3 := T.g.size
  generalize hV : World.alloc w3 _ = w4
  have y4 : Blk w4 (P + 1) 2 #[.int .i64 0, .int .i64 0, .int .i64 5000, .int .i64 15000, .int .i64 30000, .int .i64 45000] := by rw [← hz3]; exact cells_alloc hV
  replace T := T.alloc hV
  clear hV
  refine (among_any s A n c l _ (P + 1) 6 6 (fun z => z = 0 ∨ z = 5000 ∨ z = 15000 ∨ z = 30000 ∨ z = 45000) _ hn (by omega) (by decide) ⟨y4.lt, by omega⟩ ?_ T.src).mono ?_
  · intro j hj
    match j, hj with
    | 0, _ => exact ⟨_, y4.cell 0, by decide⟩
    | 1, _ => exact ⟨_, y4.cell 1, by decide⟩
    | 2, _ => exact ⟨_, y4.cell 2, by decide⟩
    | 3, _ => exact ⟨_, y4.cell 3, by decide⟩
    | 4, _ => exact ⟨_, y4.cell 4, by decide⟩
    | 5, _ => exact ⟨_, y4.cell 5, by decide⟩
  clear y4 sz3 hz3
  rintro e w5 ⟨⟨t, rfl, ht⟩, hs5, hg5⟩
  replace T := T.draw hs5 hg5
  clear hs5 hg5
  have HTT := Lib.hid ht
  clear ht
  have x0 := T.p
  have d0 := x0.cell 0
  have d1 := x0.cell 1
  have d2 := x0.cell 2
  simp at d0 d1 d2
  have dl := x0.lt
  have dg0 := x0.frozen 0
  have dg1 := x0.frozen 1
  have dg2 := x0.frozen 2
  have x1 := T.r
  have u0 := x1.cell 0
  have u1 := x1.cell 1
  have u2 := x1.cell 2
  simp at u0 u1 u2
  have ul := x1.lt
  have ug0 := x1.frozen 0
  have ug1 := x1.frozen 1
  have ug2 := x1.frozen 2
  clear x0 x1
  have ne1 : w.heap.size ≠ P := T.ne
  have ne2 : P ≠ w.heap.size := fun e => T.ne e.symm
  go_wp2_with fail
  have TF := (((T.put (.inr FAR) 2 (.int .i64 t) rfl).putR (.inr FAR) 0 (.string nm) rfl).putR (.inr FAR) 1 (.int .i64 (3000 + p)) rfl).putR (.inr FAR) 2 (.int .i64 t) rfl
  have x2 := TF.r
  have z0 := x2.cell 0
  have z1 := x2.cell 1
  have z2 := x2.cell 2
  simp at z0 z1 z2
  have zl := x2.lt
  refine bodyPost_ret (v := .agg #[.string nm, .int .i64 (3000 + p), .int .i64 t]) (by simp [results, Tryz.results55, go_sem, z0, z1, z2]) rfl ?_
  refine ⟨⟨⟨nm, 3000 + p, t⟩, rfl, domeB_yes ⟨HNM.out, inB_iff.2 ⟨by show 1000 ≤ 3000 + p; omega, by show 3000 + p ≤ 30000; omega⟩, inB_iff.2 ?_⟩, ⟨by show 3000 ≤ 3000 + p; omega, by show 3000 + p ≤ 11999; omega⟩, hnz, HTT.out⟩, TF.src.more (by omega), TF.g⟩
  have := HTT.out
  show 0 ≤ t ∧ t ≤ 45000
  omega
set_option maxRecDepth 100000 in
set_option maxHeartbeats 2000000 in
theorem r8Dome_any (A : Option Addr) (n c : Nat) (l : Nat → Int) (w : World) (hn : n ≤ 1048576) (hs : Sl w A (n * 1) (ByteC l)) (hl : ∀ j, j < n → 0 ≤ l j ∧ l j ≤ 255) :
    Calls Tryz.prog 19 #[.slice A n c] w fun e w' => (∃ x : DomeD, e = .returned (.agg #[.string x.f0, .int .i64 x.f1, .int .i64 x.f2]) ∧ DomB x) ∧ Below w.heap.size w w' := by
  go_enter Tryz.func19, Tryz.ntmps19
  go_wp2_with fail
  generalize hV : World.alloc w _ = w0
  have HB := bel_alloc hV
  have r0 := cells_alloc hV
  clear hV
  have hs0 := hs.below HB
  refine (from_any A n c l _ hs0 hl (fun ad e hm => by obtain ⟨b, off, e2, hb, _⟩ := hs0 hm; rw [e] at e2; injection e2 with e2; rw [e2]; exact hb)).mono ?_
  rintro e w1 ⟨rfl, hs1, hb1⟩
  have sz1 := hs1.lt
  have rl := r0.lt
  have r1 := r0.below hb1 r0.lt
  have B1 := HB.trans (hb1.mono HB.size)
  clear r0
  go_wp2_with fail
  refine (l09Draw_any w0.heap.size A n c l 0 _ hn (by omega) hs1).mono ?_
  rintro e w2 ⟨⟨x, rfl, hx⟩, hs2, hg2⟩
  have r2 := blk_grown r1 hg2 (fun e => by injection e with e; omega)
  have B2 := below_by B1 hg2 (by omega)
  have u0 := r2.cell 0
  have u1 := r2.cell 1
  have u2 := r2.cell 2
  simp at u0 u1 u2
  have ul := r2.lt
  have ug0 := r2.frozen 0
  have ug1 := r2.frozen 1
  have ug2 := r2.frozen 2
  go_wp2_with fail
  have k := ((r2.set_ 0 (.string x.f0)).set_ 1 (.int .i64 x.f1)).set_ 2 (.int .i64 x.f2)
  have z0 := k.cell 0
  have z1 := k.cell 1
  have z2 := k.cell 2
  simp at z0 z1 z2
  have zl := k.lt
  refine bodyPost_ret (v := .agg #[.string x.f0, .int .i64 x.f1, .int .i64 x.f2]) (by simp [results, Tryz.results19, go_sem, z0, z1, z2]) rfl ?_
  exact ⟨⟨x, rfl, hx⟩, ((B2.setCell (p := ⟨w.heap.size, 0, none⟩) (Nat.le_refl _) _).setCell (p := ⟨w.heap.size, 1, none⟩) (Nat.le_refl _) _).setCell (p := ⟨w.heap.size, 2, none⟩) (Nat.le_refl _) _⟩
end Go.Proofs.YthjllledhcfnhaaGreatDoor
