/- Drawn lists of projectors. Conditions: the code is shorter than 2^20. -/
import Derived.Test.YthjllledhcfnhaaGreatDoorDrawProj
namespace Go.Proofs.YthjllledhcfnhaaGreatDoor
open Go.RowKit Go.Lib Go.Ks
theorem dec25 {n : Int} (h0 : 0 ≤ n) (h1 : n ≤ 1000) : (decB n).size ≤ 25 := by
  have := Lib.itoa_length_le n (by omega) (by omega)
  unfold decB
  have e : (⟨(Lib.itoa n).toArray⟩ : ByteArray).size = (Lib.itoa n).length := by simp [ByteArray.size]
  omega
/-- what a draw of projectors leaves -/
def RetPL (w w' : World) (e : Ending) : Prop :=
  ∃ (A : Option Addr) (n c : Nat) (L : Nat → ProjectorD), e = .returned (.slice A n c) ∧ n ≤ 7 ∧ Own w' w.heap.size 125 5 A n (ProjectorC L) ∧ ∀ j, j < n → PrB (L j)
theorem row_ret {w w1 wr : World} {v : Value} {q : Nat} {L : Nat → ProjectorD} (hb : w.heap.size ≤ w1.heap.size) (hq : q ≤ 7) (row : Row wr w1.heap.size 125 5 v q (ProjectorC L)) (hL : ∀ j, j < q → PrB (L j)) : RetPL w wr (.returned v) := by
  obtain ⟨A, c, rfl, hc, hown, _⟩ := row.own
  exact ⟨A, q, c, L, rfl, hq, hown.mono hb, hL⟩
theorem draw_src {w0 w w1 w' : World} {s : Nat} {A : Option Addr} {n c : Nat} {l : Nat → Int} {k : Nat} {base : Nat} {e : TypeId} {size : Nat} {v : Value} {m : Nat} {f : Nat → Value} {o : Obj} (h : Src w s A n c l k) (hA : ∀ ad, A = some ad → 0 < n * 1 → ad.block < w0.heap.size) (hs : s < w0.heap.size) (hb : w0.heap.size ≤ base) (row : Row w1 base e size v m f) (hw : w.alloc o = w1) (hg : w1.grownBy w' v.ownBlock) : Src w' s A n c l k := by
  refine (h.below (bel_alloc hw)).grown hg (fun b hb2 => ?_)
  have := Row.far row b hb2
  exact ⟨by omega, fun ad ha hm => by have := hA ad ha hm; omega⟩
set_option maxRecDepth 100000 in
set_option maxHeartbeats 8000000 in
theorem l10Draw_any (s : Nat) (A : Option Addr) (n c : Nat) (l : Nat → Int) (k : Nat) (w : World) (hn : n ≤ 1048576) (hk : k ≤ 800000) (h : Src w s A n c l k) :
    Calls Tryz.prog 86 #[.pointer (some ⟨s, 0, none⟩)] w fun e w' => RetPL w w' e ∧ Src w' s A n c l (k + 120) ∧ w.grownBy w' (some s) := by
  have hsl := h.lt
  have hA := code_lt h
  obtain ⟨i0, hi, hz0, hz1, hz2⟩ := info_parts Tryz.infoPrj
  go_enter Tryz.func86, Tryz.ntmps86
  go_wp2_with fail
  generalize hV : World.alloc w _ = w1
  have h1 := bel_alloc hV
  have nb := cells_alloc hV
  have HZ := Lib.hid (show w1.heap.size = w.heap.size + 1 by rw [← hV]; simp)
  clear hV
  have hwlt : w.heap.size < w1.heap.size := nb.lt
  have hwsz : w.heap.size ≤ w1.heap.size := by omega
  have hsb : s < w1.heap.size := by omega
  have hs1 := h.below h1
  have HN : ∀ q : Nat, q < 4 → ∃ nm : ByteArray, w1.cell? ⟨w.heap.size, q, none⟩ = some (.string nm) ∧ nm.size ≤ 40 := fun q hq => by
    match q, hq with
    | 0, _ => exact ⟨_, nb.cell 0, by decide⟩
    | 1, _ => exact ⟨_, nb.cell 1, by decide⟩
    | 2, _ => exact ⟨_, nb.cell 2, by decide⟩
    | 3, _ => exact ⟨_, nb.cell 3, by decide⟩
  have HNN := Lib.hid HN
  clear HN nb
  generalize hV : World.alloc w1 _ = w2
  have r2 : Row w2 w1.heap.size 125 5 (.slice (some ⟨w.heap.size + 1, 0, none⟩) 0 0) 0 (ProjectorC (fun _ => ⟨ByteArray.empty, 0, 0, 0, 0⟩)) := by rw [← HZ.out, ← hV]; exact Row.empty w1 _ _ _ (Nat.le_refl _)
  have h2 := bel_alloc hV
  clear hV
  have hs2 := hs1.below h2
  go_loopw [4, 5] (fun v i wr => ∃ (q M : Nat) (L : Nat → ProjectorD), q ≤ 4 ∧ M ≤ q ∧ i = .int .i64 (q : Int) ∧ Row wr w1.heap.size 125 5 v M (ProjectorC L) ∧ (∀ j, j < M → PrB (L j)) ∧ Src wr s A n c l (k + 22 * q) ∧ w1.grownBy wr (some s)) (fun _ i _ => 4 - (intOf i).toNat)
  case atStart => exact ⟨0, 0, _, by omega, Nat.le_refl _, rfl, r2, fun j hj => absurd hj (by omega), hs2, only_of_below h2 (some s)⟩
  case round =>
    obtain ⟨q, M, L, hq, hM, rfl, row, hL, hsr, hg⟩ := hrel
    have HL := Lib.hid hL
    clear hL
    have gsz := hg.size
    by_cases hlt : q < 4
    · have hlt' : (q : Int) < 4 := by omega
      go_wp2_with fail
      refine (one_any s A n c l (k + 22 * q) 2 _ hn (by omega) (by decide) hsr).mono ?_
      rintro e w5 ⟨⟨b, rfl⟩, hs5, hg5⟩
      have row5 := row.only hg5 hsb
      have gw5 := hg.trans hg5
      have gsz5 := gw5.size
      clear row hsr hg gsz hg5
      cases b
      · go_wp2_with fail
        go_roundw
        case rel => exact ⟨q + 1, M, L, by omega, by omega, by go_num, row5, HL.out, hs5.more (by omega), gw5⟩
        case measure => simp [intOf]; omega
      · obtain ⟨nm, hcell, hnm⟩ := HNN.out q hlt
        have hc5 : w5.cell? ⟨w.heap.size, q, none⟩ = some (.string nm) := gw5.cell hcell (fun e => by injection e with e; have e' : w.heap.size = s := e; omega)
        clear hcell
        have nbl5 : w.heap.size < w5.heap.size := by omega
        go_wp2_with fail
        refine (l10DrawOne_any nm s A n c l (k + 22 * q + 2) _ hn (by omega) hs5).mono ?_
        rintro e w6 ⟨⟨x, rfl, hx, hx0⟩, hs6, hg6⟩
        have hxb : PrB x := hx.b (by rw [hx0]; exact hnm)
        clear hx0 hx
        have row6 := row5.only hg6 hsb
        have gw6 := gw5.trans hg6
        have gsz6 := gw6.size
        clear row5 hs5 hg6 hc5 nbl5 gw5 gsz5
        have rowc := row6.congr (f' := ProjectorC (addP L M x)) (fun j hj => addP_old j hj)
        go_wp2_with (at_builtin; refine wpList_append_row rfl _ _ 37 rfl w1.heap.size 125 i0 _ 5 48 Tryz.underlying37 hi hz0 hz1 hz2 rfl (by decide) _ M (ProjectorC (addP L M x)) rfl (rowc.alloc _) w6.heap.size 1 rfl ?c1 (prj_one _ M) ?c3 ?c4 ?c5 ?_)
        case c1 => exact addP_new (Blk.new w6 _ _)
        case c3 => omega
        case c4 => omega
        case c5 => first | omega | (simp; omega)
        intro v' w7 row8 hg7
        have gw7 := only_row (only_alloc gw6 _) (rowc.alloc _) (Nat.le_refl _) hg7
        have hs7 := draw_src hs6 hA hsl hwsz (rowc.alloc _) rfl hg7
        clear hg7
        go_wp2_with fail
        go_roundw
        case rel => exact ⟨q + 1, M + 1, _, by omega, by omega, by go_num, row8, addP_all HL.out hxb, hs7.more (by omega), gw7⟩
        case measure => simp [intOf]; omega
    · obtain rfl : q = 4 := by omega
      clear HNN
      go_wp2_with fail
      refine (pick_any s A n c l (k + 22 * 4) 20 _ hn (by omega) (by decide) hsr).mono ?_
      rintro e w5 ⟨⟨p, rfl, p0, p1⟩, hs5, hg5⟩
      have row5 := row.only hg5 hsb
      have gw5 := hg.trans hg5
      have gsz5 := gw5.size
      clear row hsr hg gsz hg5
      by_cases q0 : p = 0
      · subst q0
        clear p0 p1
        go_wp2_with fail
        refine (l10DrawOne_any _ s A n c l (k + 22 * 4 + 2) _ hn (by omega) hs5).mono ?_
        rintro e w6 ⟨⟨y, rfl, hy, hy0⟩, hs6, hg6⟩
        have hyb : PrB y := hy.b (by rw [hy0]; decide)
        clear hy0 hy
        have row6 := row5.only hg6 hsb
        have gw6 := gw5.trans hg6
        clear row5 hs5 hg6 gw5 gsz5
        go_wp2_with fail
        refine (l10Bend_any y hyb s A n c l _ _ hn (by omega) hs6).mono ?_
        rintro e w9 ⟨⟨x, rfl, hxb⟩, hs9, hg9⟩
        have row9 := row6.only hg9 hsb
        have gw9 := gw6.trans hg9
        have gsz9 := gw9.size
        clear row6 hs6 hg9 gw6
        have rowc := row9.congr (f' := ProjectorC (addP L M x)) (fun j hj => addP_old j hj)
        go_wp2_with (at_builtin; refine wpList_append_row rfl _ _ 37 rfl w1.heap.size 125 i0 _ 5 48 Tryz.underlying37 hi hz0 hz1 hz2 rfl (by decide) _ M (ProjectorC (addP L M x)) rfl (rowc.alloc _) w9.heap.size 1 rfl ?c1 (prj_one _ M) ?c3 ?c4 ?c5 ?_)
        case c1 => exact addP_new (Blk.new w9 _ _)
        case c3 => omega
        case c4 => omega
        case c5 => first | omega | (simp; omega)
        intro v' w7 row8 hg7
        have gw7 := only_row (only_alloc gw9 _) (rowc.alloc _) (Nat.le_refl _) hg7
        have hs7 := draw_src hs9 hA hsl hwsz (rowc.alloc _) rfl hg7
        clear hg7
        go_wp2_with fail
        go_ret
        exact ⟨row_ret hwsz (by omega) row8 (addP_all HL.out hxb), hs7.more (by omega), (only_of_below h1 (some s)).trans gw7⟩
      by_cases q1 : p = 1
      · subst q1
        clear p0 p1
        go_wp2_with fail
        generalize hV : World.alloc w5 _ = w6
        have h6 := bel_alloc hV
        have y6 : Blk w6 w5.heap.size 2 #[.int .i64 6, .int .i64 7] := cells_alloc hV
        clear hV
        refine (among_any s A n c l _ w5.heap.size 2 2 (fun z => 6 ≤ z ∧ z ≤ 7) _ hn (by omega) (by decide) ⟨y6.lt, by omega⟩ ?_ (hs5.below h6)).mono ?_
        · intro j hj
          match j, hj with
          | 0, _ => exact ⟨_, y6.cell 0, by decide⟩
          | 1, _ => exact ⟨_, y6.cell 1, by decide⟩
        rintro e w7 ⟨⟨t, rfl, t0, t1⟩, hs7, hg7⟩
        have gw7 := (only_then gw5 h6).trans hg7
        have gsz7 := gw7.size
        clear y6 h6 hg7 hs5 gw5 row5 HL gsz5
        go_wp2_with fail
        generalize hV : World.alloc w7 _ = w8
        have r8 : Row w8 w1.heap.size 125 5 (.slice (some ⟨w7.heap.size, 0, none⟩) 0 0) 0 (ProjectorC (fun _ => ⟨ByteArray.empty, 0, 0, 0, 0⟩)) := by rw [← hV]; exact Row.empty w7 _ _ _ gsz7
        have h8 := bel_alloc hV
        clear hV
        have hs8 := hs7.below h8
        have gw8 := only_then gw7 h8
        clear h8 hs7 gw7
        go_loopw [4, 7] (fun v i wr => ∃ (q : Nat) (L : Nat → ProjectorD), (q : Int) ≤ t ∧ i = .int .i64 (q : Int) ∧ Row wr w1.heap.size 125 5 v q (ProjectorC L) ∧ (∀ j, j < q → PrB (L j)) ∧ Src wr s A n c l (k + 22 * 4 + 2 + 2) ∧ w1.grownBy wr (some s)) (fun _ i _ => (t - intOf i).toNat)
        case atStart => exact ⟨0, _, by omega, rfl, r8, fun j hj => absurd hj (by omega), hs8, gw8⟩
        case round =>
          obtain ⟨q, L, hq, rfl, row, hL, hsr, hg⟩ := hrel
          have HL := Lib.hid hL
          clear hL
          have gsz := hg.size
          by_cases hqt : (q : Int) < t
          · go_wp2_with fail
            refine (l01Dec_any (q : Int) (by omega) _).mono ?_
            rintro e w9 ⟨rfl, hb9⟩
            have row9 := row.below hb9
            have gw9 := only_then hg hb9
            have gsz9 := gw9.size
            have hs9 := hsr.below hb9
            clear row hg hsr hb9 gsz
            have wr : IntKind.i64.wrap (50000 * (q : Int)) = 50000 * (q : Int) := by rw [IntKind.wrap_i64]; omega
            obtain ⟨nm, hnm⟩ : ∃ nm : ByteArray, nm = decB (q : Int) := ⟨_, rfl⟩
            have dz : nm.size ≤ 25 := by rw [hnm]; exact dec25 (by omega) (by omega)
            rw [← hnm]
            clear hnm
            have pz : (⟨#[112]⟩ : ByteArray).size = 1 := rfl
            have hxb : PrB ⟨(⟨#[112]⟩ : ByteArray) ++ nm, 50000 * (q : Int), 30000, 60000, 500⟩ := ⟨by show ((⟨#[112]⟩ : ByteArray) ++ nm).size ≤ 40; rw [ByteArray.size_append, pz]; omega, ⟨by show -1000000 ≤ 50000 * (q : Int); omega, by show 50000 * (q : Int) ≤ 1000000; omega⟩, show (-1000000 : Int) ≤ 30000 ∧ (30000 : Int) ≤ 1000000 by decide, show (-1000000 : Int) ≤ 60000 ∧ (60000 : Int) ≤ 1000000 by decide, show (-1000000 : Int) ≤ 500 ∧ (500 : Int) ≤ 1000000 by decide⟩
            have sz1 : ¬ (9223372036854775807 < (⟨#[112]⟩ : ByteArray).size + nm.size) := by rw [pz]; omega
            have sz2 : ¬ (9223372036854775806 < nm.size) := by omega
            have sz3 : ¬ (9223372036854775807 < 1 + nm.size) := by omega
            have sz4 : ¬ (9223372036854775807 < nm.size + 1) := by omega
            have rowc := row9.congr (f' := ProjectorC (addP L q (⟨(⟨#[112]⟩ : ByteArray) ++ nm, 50000 * (q : Int), 30000, 60000, 500⟩ : ProjectorD))) (fun j hj => addP_old j hj)
            go_wp2_with (at_builtin; refine wpList_append_row rfl _ _ 37 rfl w1.heap.size 125 i0 _ 5 48 Tryz.underlying37 hi hz0 hz1 hz2 rfl (by decide) _ q (ProjectorC (addP L q (⟨(⟨#[112]⟩ : ByteArray) ++ nm, 50000 * (q : Int), 30000, 60000, 500⟩ : ProjectorD))) rfl (rowc.alloc _) w9.heap.size 1 rfl ?c1 (prj_one _ q) ?c3 ?c4 ?c5 ?_)
            case c1 => exact addP_new (Blk.new w9 _ _)
            case c3 => omega
            case c4 => omega
            case c5 => first | omega | (simp; omega)
            intro v' w7 row8 hg7
            have gw7 := only_row (only_alloc gw9 _) (rowc.alloc _) (Nat.le_refl _) hg7
            have hs7 := draw_src hs9 hA hsl hwsz (rowc.alloc _) rfl hg7
            clear hg7
            go_wp2_with fail
            go_roundw
            case rel => exact ⟨q + 1, _, by omega, by go_num, row8, addP_all HL.out hxb, hs7.more (by omega), gw7⟩
            case measure => simp [intOf]; omega
          · go_wp2_with fail
            go_ret
            exact ⟨row_ret hwsz (by omega) row HL.out, hsr.more (by omega), (only_of_below h1 (some s)).trans hg⟩
      · go_wp2_with fail
        go_ret
        exact ⟨row_ret hwsz (by omega) row5 HL.out, hs5.more (by omega), (only_of_below h1 (some s)).trans gw5⟩
end Go.Proofs.YthjllledhcfnhaaGreatDoor
