/- A drawn mesh is a valid mesh. Conditions: the code is shorter than 2^20. -/
import Derived.Test.YthjllledhcfnhaaDoorSrc
import Derived.Test.YthjllledhcfnhaaDoorPlainMesh
import Derived.Test.YthjllledhcfnhaaDoorMirror
import Derived.Test.YthjllledhcfnhaaDoorMove
import Derived.Test.YthjllledhcfnhaaDoorWarpsLaw
namespace Go.Proofs.YthjllledhcfnhaaDoor
open Go.RowKit Go.Lib Go.Ks
def SmB (m : Int) (s : SpotD) : Prop := (-m ≤ s.f0 ∧ s.f0 ≤ m) ∧ (-m ≤ s.f1 ∧ s.f1 ≤ m)
/-- one point's coordinate is changed -/
theorem SmB.more {m m' : Int} {s : SpotD} (h : SmB m s) (hm : m ≤ m') : SmB m' s := by
  obtain ⟨⟨a, b⟩, c, d⟩ := h
  exact ⟨⟨by omega, by omega⟩, by omega, by omega⟩
theorem half_eq {z : Int} (h0 : 0 ≤ z) (h1 : z ≤ 600000) : z.tdiv 2 = z / 2 ∧ IntKind.i64.wrap (z / 2) = z / 2 :=
  ⟨Int.tdiv_eq_ediv_of_nonneg h0, by rw [IntKind.wrap_i64]; omega⟩
theorem turn_eq {t z a : Int} (t1 : 0 ≤ t) (t2 : t < 60001) (z1 : 0 ≤ z) (z2 : z ≤ 600000) (a0 : -1000000 ≤ a) (a1 : a ≤ 1000000) :
    IntKind.i64.wrap (t * z) = t * z ∧ (t * z).tdiv 60000 = t * z / 60000 ∧ IntKind.i64.wrap (t * z / 60000) = t * z / 60000 ∧ IntKind.i64.wrap (t * z / 60000 - z / 2) = t * z / 60000 - z / 2 ∧
    IntKind.i64.wrap (a + (t * z / 60000 - z / 2)) = a + (t * z / 60000 - z / 2) ∧ -1300000 ≤ a + (t * z / 60000 - z / 2) ∧ a + (t * z / 60000 - z / 2) ≤ 1300000 := by
  have m0 := Int.mul_nonneg t1 z1
  have m1 : t * z ≤ 60000 * z := Int.mul_le_mul_of_nonneg_right (by omega) z1
  rw [IntKind.wrap_i64, IntKind.wrap_i64, IntKind.wrap_i64, IntKind.wrap_i64, Int.tdiv_eq_ediv_of_nonneg m0]
  omega
theorem spotC_same {l l' : Nat → SpotD} (j : Nat) (h : ∀ i, l i = l' i) : SpotC l j = SpotC l' j := by rw [show l = l' from funext h]
theorem put_x {w : World} {B ms n i : Nat} {h : Nat → Value} {l : Nat → SpotD} {x : Int} (hb : Blk w B 81 (arr ms h)) (hh : ∀ q, q < n * 2 → h q = SpotC l q) :
    ∃ h', Blk (w.setCell ⟨B, i * 2, none⟩ (.int .i64 x)) B 81 (arr ms h') ∧ ∀ q, q < n * 2 → h' q = SpotC (fun j => if j = i then ⟨x, (l i).f1⟩ else l j) q := by
  refine ⟨_, by rw [← arr_set]; exact hb.set_ _ _, fun q hq => ?_⟩
  obtain ⟨k, hk⟩ : ∃ k, q = k * 2 ∨ q = k * 2 + 1 := ⟨q / 2, by omega⟩
  have hq := hh q hq
  rcases hk with rfl | rfl
  · rw [SpotC0] at hq ⊢
    by_cases e : k = i
    · subst e; simp
    · rw [if_neg (by omega), if_neg e, hq]
  · rw [SpotC1] at hq ⊢
    rw [if_neg (by omega), hq]
    by_cases e : k = i
    · subst e; simp
    · rw [if_neg e]
theorem put_y {w : World} {B ms n i : Nat} {h : Nat → Value} {l : Nat → SpotD} {x : Int} (hb : Blk w B 81 (arr ms h)) (hh : ∀ q, q < n * 2 → h q = SpotC l q) :
    ∃ h', Blk (w.setCell ⟨B, i * 2 + 1, none⟩ (.int .i64 x)) B 81 (arr ms h') ∧ ∀ q, q < n * 2 → h' q = SpotC (fun j => if j = i then ⟨(l i).f0, x⟩ else l j) q := by
  refine ⟨_, by rw [← arr_set]; exact hb.set_ _ _, fun q hq => ?_⟩
  obtain ⟨k, hk⟩ : ∃ k, q = k * 2 ∨ q = k * 2 + 1 := ⟨q / 2, by omega⟩
  have hq := hh q hq
  rcases hk with rfl | rfl
  · rw [SpotC0] at hq ⊢
    rw [if_neg (by omega), hq]
    by_cases e : k = i
    · subst e; simp
    · rw [if_neg e]
  · rw [SpotC1] at hq ⊢
    by_cases e : k = i
    · subst e; simp
    · rw [if_neg (by omega), if_neg e, hq]
/-- what a draw leaves: a valid mesh of its own -/
def RetD (w w' : World) (e : Ending) : Prop :=
  ∃ (C R : Int) (A : Option Addr) (n c : Nat) (l : Nat → SpotD), e = .returned (.agg #[.int .i64 C, .int .i64 R, .slice A n c]) ∧ MeshOk C R n l ∧ Own w' w.heap.size 81 2 A n (SpotC l)
theorem pl_small {C R : Int} {n j : Nat} (h : MeshOk C R n (plL C R)) (hj : j < n) : SmB 1000000 (plL C R j) := by
  obtain ⟨⟨hC, hC'⟩, ⟨hR, hR'⟩, hn, _⟩ := h
  have hc0 : 0 < C.toNat := by omega
  have h1 := Nat.mod_lt j hc0
  have hn' : n = R.toNat * C.toNat := by
    have : (n : Int) = ((R.toNat * C.toNat : Nat) : Int) := by rw [Int.natCast_mul, Int.toNat_of_nonneg (by omega), Int.toNat_of_nonneg (by omega), Int.mul_comm]; exact hn
    omega
  have h2 : j / C.toNat < R.toNat := Nat.div_lt_of_lt_mul (by rw [Nat.mul_comm, ← hn']; exact hj)
  unfold SmB plL
  simp only
  generalize j % C.toNat = a at *
  generalize j / C.toNat = b at *
  obtain ⟨_, x1, x2⟩ := pl_bd (C := C) (i := (a : Int)) hC hC' (by omega) (by omega)
  obtain ⟨_, y1, y2⟩ := pl_bd (C := R) (i := (b : Int)) hR hR' (by omega) (by omega)
  exact ⟨⟨x1, x2⟩, y1, y2⟩
set_option maxRecDepth 100000 in
set_option maxHeartbeats 4000000 in
theorem l11Draw_any (s : Nat) (A : Option Addr) (n c : Nat) (l : Nat → Int) (k : Nat) (w : World) (hn : n ≤ 1048576) (hk : k ≤ 1000) (h : Src w s A n c l k) :
    Calls Tryd.prog 97 #[.pointer (some ⟨s, 0, none⟩)] w fun e w' => RetD w w' e ∧ w.grownBy w' (some s) := by
  have hs := h.lt
  have hA : ∀ ad, A = some ad → 0 < n * 1 → ad.block < w.heap.size := fun ad e hm => by obtain ⟨b, off, e2, hb, _⟩ := h.code hm; rw [e] at e2; injection e2 with e2; rw [e2]; exact hb
  go_enter Tryd.func97, Tryd.ntmps97
  go_wp2_with fail
  generalize hV : World.alloc _ _ = w1
  have h1 : Below w.heap.size w w1 := by rw [← hV]; exact (Below.refl _ _).alloc (Nat.le_refl _) _
  have r1 : Blk w1 w.heap.size 69 #[.int .i64 0, .int .i64 0, .slice none 0 0] := by rw [← hV]; exact Blk.new w _ _
  clear hV
  refine (pick_any s A n c l k 4 _ hn (by omega) (by decide) (h.below h1)).mono ?_
  rintro e w2 ⟨⟨x, rfl, x1, x2⟩, hs2, hg2⟩
  go_wp2_with fail
  refine (pick_any s A n c l (k + 2) 4 _ hn (by omega) (by decide) hs2).mono ?_
  rintro e w3 ⟨⟨y, rfl, y1, y2⟩, hs3, hg3⟩
  go_wp2_with fail
  refine (l11Plain_any (2 + x) (2 + y) _ (by omega) (by omega) (by omega) (by omega)).mono ?_
  rintro e w4 ⟨⟨A4, c4, rfl, own4, hz4⟩, hb4⟩
  go_wp2_with fail
  generalize hV : World.alloc (World.alloc w4 _) _ = w5
  have h5 : Below w4.heap.size w4 w5 := by rw [← hV]; repeat (first | with_reducible exact Below.refl _ _ | with_reducible assumption | with_reducible refine Below.setCell ?_ (by first | omega | (simp <;> omega)) _ | with_reducible refine Below.alloc ?_ (by first | omega | (simp <;> omega)) _ | with_reducible refine Below.drew ?_)
  have m5 : Blk w5 w4.heap.size 69 #[.int .i64 (2 + x), .int .i64 (2 + y), .slice A4 ((2 + y).toNat * (2 + x).toNat) c4] := by rw [← hV]; exact (Blk.new w4 _ _).alloc _
  have z5 : Blk w5 (w4.heap.size + 1) 2 #[.int .i64 0, .int .i64 2000, .int .i64 60000, .int .i64 60000, .int .i64 600000] := by
    have hh := Blk.new (w4.alloc (.cells #[.int .i64 (2 + x), .int .i64 (2 + y), .slice A4 ((2 + y).toNat * (2 + x).toNat) c4] 69)) 2 #[.int .i64 0, .int .i64 2000, .int .i64 60000, .int .i64 60000, .int .i64 600000]
    rw [hV] at hh
    simpa using hh
  clear hV
  have hs4 := hs3.below hb4
  have l3 := hs3.lt
  have e4 := hb4.size
  have e2 := hg2.size
  have e3 := hg3.size
  have e1 := h1.size
  refine (among_any s A n c l (k + 2 + 2) (w4.heap.size + 1) 5 5 (fun z => 0 ≤ z ∧ z ≤ 600000) _ hn (by omega) (by decide) ⟨z5.lt, by omega⟩ ?_ (hs4.below h5)).mono ?_
  · intro j hj
    match j, hj with
    | 0, _ => exact ⟨_, z5.cell 0, by decide⟩
    | 1, _ => exact ⟨_, z5.cell 1, by decide⟩
    | 2, _ => exact ⟨_, z5.cell 2, by decide⟩
    | 3, _ => exact ⟨_, z5.cell 3, by decide⟩
    | 4, _ => exact ⟨_, z5.cell 4, by decide⟩
  rintro e w6 ⟨⟨z, rfl, z1, z2⟩, hs6, hg6⟩
  have hmp := plL_ok (C := 2 + x) (R := 2 + y) (by omega) (by omega) (by omega) (by omega)
  obtain ⟨N, hN⟩ : ∃ N, N = (2 + y).toNat * (2 + x).toNat := ⟨_, rfl⟩
  rw [← hN] at own4 m5 hmp
  have hN1 : 0 < N := by rw [hN]; exact Nat.mul_pos (by omega) (by omega)
  have hN2 : N ≤ 5 * 5 := by rw [hN]; exact Nat.mul_le_mul (by omega) (by omega)
  obtain ⟨B, ms, h0, rfl, hB, kb4, hms, hh0⟩ := Own.some_blk own4 hN1
  have sB : s ≠ B := by omega
  have sM : s ≠ w4.heap.size := by omega
  have sR : s ≠ w.heap.size := by omega
  have wB : w.heap.size ≤ B := by omega
  have wM : w.heap.size ≤ w4.heap.size := by omega
  have hne : ∀ {b : Nat}, s ≠ b → some s ≠ some b := fun h e => h (by injection e)
  have gA : w.grownBy w6 (some s) := (only_then (only_then (((only_of_below h1 (some s)).trans hg2).trans hg3) hb4) h5).trans hg6
  have kb6 : Blk w6 B 81 (arr ms h0) := blk_grown (kb4.below h5 kb4.lt) hg6 (hne sB)
  have m6 : Blk w6 w4.heap.size 69 #[.int .i64 (2 + x), .int .i64 (2 + y), .slice (some ⟨B, 0, none⟩) N c4] := blk_grown m5 hg6 (hne sM)
  have r3 := blk_grown (blk_grown r1 hg2 (hne sR)) hg3 (hne sR)
  have r4 := r3.below hb4 r3.lt
  have r6 : Blk w6 w.heap.size 69 #[.int .i64 0, .int .i64 0, .slice none 0 0] := blk_grown (r4.below h5 r4.lt) hg6 (hne sR)
  have BM : B ≠ w4.heap.size := by have := kb4.lt; omega
  have BR : B ≠ w.heap.size := by have := r1.lt; omega
  have RM : w.heap.size ≠ w4.heap.size := by have := r4.lt; omega
  clear r1 r3 r4 m5 z5 own4 kb4 hs2 hs3 hs4 hg2 hg3 hg6 hb4 h1 h5 e1 e2 e3
  go_wp2_with fail
  have HP := Lib.hid hmp
  have N2 : (N : Int) ≤ 25 := by omega
  have gsz := gA.size
  clear hmp hN hz4
  go_loopw [6] (fun i wr => ∃ (q : Nat) (h : Nat → Value) (L : Nat → SpotD), q ≤ N ∧ i = .int .i64 (q : Int) ∧ Blk wr B 81 (arr ms h) ∧ (∀ j, j < N * 2 → h j = SpotC L j) ∧ (∀ j, j < N → SmB 1300000 (L j)) ∧ (∀ j, q ≤ j → j < N → SmB 1000000 (L j)) ∧ Src wr s A n c l (k + 10 + 6 * q) ∧ Blk wr w4.heap.size 69 #[.int .i64 (2 + x), .int .i64 (2 + y), .slice (some ⟨B, 0, none⟩) N c4] ∧ Blk wr w.heap.size 69 #[.int .i64 0, .int .i64 0, .slice none 0 0] ∧ w.grownBy wr (some s)) (fun i _ => N - (intOf i).toNat)
  case atStart =>
    refine ⟨0, h0, plL (2 + x) (2 + y), Nat.zero_le _, rfl, kb6, hh0, ?_, ?_, hs6.more (by omega), m6, r6, gA⟩
    · exact fun j hj => SmB.more (pl_small HP.out hj) (by decide)
    · exact fun j _ hj => pl_small HP.out hj
  case round =>
    obtain ⟨q, h, L, hq, rfl, kb, hh, hL1, hL2, hsr, km, kr, hg⟩ := hrel
    have HH := Lib.hid hh
    have HL1 := Lib.hid hL1
    have HL2 := Lib.hid hL2
    clear hh hL1 hL2
    have c0 := km.cell 0
    have c1 := km.cell 1
    have c2 := km.cell 2
    simp at c0 c1 c2
    have cl := km.lt
    by_cases hqN : q < N
    · have hqN' : (q : Int) < (N : Int) := by omega
      by_cases hz : 0 < z
      · go_wp2_with fail
        refine (pick_any s A n c l (k + 10 + 6 * q) 3 _ hn (by omega) (by decide) hsr).mono ?_
        rintro e wp ⟨⟨p, rfl, p1, p2⟩, hsp, hgp⟩
        by_cases hp : 0 < p
        · have km2 := blk_grown km hgp (hne sM)
          have kb2 := blk_grown kb hgp (hne sB)
          have kr2 := blk_grown kr hgp (hne sR)
          have hg2 := hg.trans hgp
          have c4' := c2
          clear c0 c1 c2 cl
          obtain ⟨⟨a0, a1⟩, a2, a3⟩ := HL2.out q (Nat.le_refl _) hqN
          have c0 := km2.cell 0
          have c1 := km2.cell 1
          have c2 := km2.cell 2
          simp at c0 c1 c2
          have cl := km2.lt
          have b0 : wp.cell? ⟨B, q * 2, none⟩ = some (.int .i64 (L q).f0) := by rw [kb2.cell, arr_get _ _ _ (by omega), HH.out _ (by omega), SpotC0]
          have b1 : wp.cell? ⟨B, q * 2 + 1, none⟩ = some (.int .i64 (L q).f1) := by rw [kb2.cell, arr_get _ _ _ (by omega), HH.out _ (by omega), SpotC1]
          have o0 := kb2.frozen (q * 2)
          have o1 := kb2.frozen (q * 2 + 1)
          have bl := kb2.lt
          have EZ := half_eq z1 z2
          obtain ⟨ez1, ez2⟩ := EZ
          go_wp2_with fail
          go_cut [6] (fun i wc => i = .int .i64 (q : Int) ∧ ∃ (h' : Nat → Value) (x' : Int), Blk wc B 81 (arr ms h') ∧ (∀ j, j < N * 2 → h' j = SpotC (fun j => if j = q then ⟨x', (L q).f1⟩ else L j) j) ∧ (-1300000 ≤ x' ∧ x' ≤ 1300000) ∧ Src wc s A n c l (k + 10 + 6 * q + 4) ∧ Blk wc w4.heap.size 69 #[.int .i64 (2 + x), .int .i64 (2 + y), .slice (some ⟨B, 0, none⟩) N c4] ∧ Blk wc w.heap.size 69 #[.int .i64 0, .int .i64 0, .slice none 0 0] ∧ w.grownBy wc (some s))
          case first =>
            have MUL := Lib.hid (fun t t1 t2 => turn_eq (t := t) (z := z) (a := (L q).f0) t1 t2 z1 z2 a0 a1)
            have ARM := Lib.hid (fun (v : World) (hgv : wp.grownBy v (some s)) => (⟨blk_grown kb2 hgv (hne sB), blk_grown km2 hgv (hne sM), blk_grown kr2 hgv (hne sR), hg2.trans hgv⟩ : Blk v B 81 (arr ms h) ∧ Blk v w4.heap.size 69 #[.int .i64 (2 + x), .int .i64 (2 + y), .slice (some ⟨B, 0, none⟩) N c4] ∧ Blk v w.heap.size 69 #[.int .i64 0, .int .i64 0, .slice none 0 0] ∧ w.grownBy v (some s)))
            have BV := Lib.hid (fun (v : World) (kbv : Blk v B 81 (arr ms h)) => show v.cell? ⟨B, q * 2, none⟩ = some (.int .i64 (L q).f0) by rw [kbv.cell, arr_get _ _ _ (by omega), HH.out _ (by omega), SpotC0])
            go_region_with (go_at_call 120; refine (pick_any s A n c l (k + 10 + 6 * q + 2) 60001 _ hn (by omega) (by decide) (hsp.below (by repeat (first | with_reducible exact Below.refl _ _ | with_reducible assumption | with_reducible refine Below.setCell ?_ (by first | omega | (simp <;> omega)) _ | with_reducible refine Below.alloc ?_ (by first | omega | (simp <;> omega)) _ | with_reducible refine Below.drew ?_)))).mono ?_; rintro e v ⟨⟨t, rfl, t1, t2⟩, hsv, hgv⟩; obtain ⟨w1, w2, w3', w4', w5', w6', w7'⟩ := MUL.out t t1 t2; obtain ⟨kbv, kmv, krv, hgw⟩ := ARM.out v ⟨hgv.os, hgv.tape, hgv.output, hgv.size, hgv.block⟩; have v2 := kmv.cell 2; simp at v2; have bv := BV.out v kbv; have ov := kbv.frozen (q * 2); have lv := kbv.lt)
            all_goals (try go_wp2_with fail)
            all_goals
              go_meet
              obtain ⟨h', p1, p2⟩ := put_x (n := N) (i := q) (l := L) (x := (L q).f0 + (t * z / 60000 - z / 2)) kbv HH.out
              have gB := only_setCell (World.grownBy.refl v (some B)) (p := ⟨B, q * 2, none⟩) (.inl rfl) (.int .i64 ((L q).f0 + (t * z / 60000 - z / 2)))
              exact ⟨rfl, h', _, p1, p2, ⟨w6', w7'⟩, hsv.grown gB (fun b e => by injection e with e; subst e; exact ⟨sB.symm, fun ad ha hm => by have := hA ad ha hm; omega⟩), kmv.far (p := ⟨B, q * 2, none⟩) BM.symm _, krv.far (p := ⟨B, q * 2, none⟩) BR.symm _, only_setCell hgw (p := ⟨B, q * 2, none⟩) (.inr wB) _⟩
          obtain ⟨rfl, h3, x3, kb3, hh3, ⟨X1, X2⟩, hs3, km3, kr3, hg3⟩ := hcut
          have HH3 := Lib.hid hh3
          obtain ⟨wz, rfl⟩ : ∃ q : World, q = wc := ⟨_, rfl⟩
          clear hh3 c0 c1 c2 cl b0 b1 o0 o1 bl
          have c0 := km3.cell 0
          have c1 := km3.cell 1
          have c2 := km3.cell 2
          simp at c0 c1 c2
          have cl := km3.lt
          have b1 : wz.cell? ⟨B, q * 2 + 1, none⟩ = some (.int .i64 (L q).f1) := by rw [kb3.cell, arr_get _ _ _ (by omega), HH3.out _ (by omega), SpotC1]; simp
          have o1 := kb3.frozen (q * 2 + 1)
          have bl := kb3.lt
          go_wp2_with fail
          have MUL := Lib.hid (fun t t1 t2 => turn_eq (t := t) (z := z) (a := (L q).f1) t1 t2 z1 z2 a2 a3)
          have ARM := Lib.hid (fun (v : World) (hgv : wz.grownBy v (some s)) => (⟨blk_grown kb3 hgv (hne sB), blk_grown km3 hgv (hne sM), blk_grown kr3 hgv (hne sR), hg3.trans hgv⟩ : Blk v B 81 (arr ms h3) ∧ Blk v w4.heap.size 69 #[.int .i64 (2 + x), .int .i64 (2 + y), .slice (some ⟨B, 0, none⟩) N c4] ∧ Blk v w.heap.size 69 #[.int .i64 0, .int .i64 0, .slice none 0 0] ∧ w.grownBy v (some s)))
          have BV := Lib.hid (fun (v : World) (kbv : Blk v B 81 (arr ms h3)) => show v.cell? ⟨B, q * 2 + 1, none⟩ = some (.int .i64 (L q).f1) by rw [kbv.cell, arr_get _ _ _ (by omega), HH3.out _ (by omega), SpotC1]; simp)
          go_region_with (go_at_call 120; refine (pick_any s A n c l (k + 10 + 6 * q + 4) 60001 _ hn (by omega) (by decide) (hs3.below (by repeat (first | with_reducible exact Below.refl _ _ | with_reducible assumption | with_reducible refine Below.setCell ?_ (by first | omega | (simp <;> omega)) _ | with_reducible refine Below.alloc ?_ (by first | omega | (simp <;> omega)) _ | with_reducible refine Below.drew ?_)))).mono ?_; rintro e v ⟨⟨t, rfl, t1, t2⟩, hsv, hgv⟩; obtain ⟨w1, w2, w3', w4', w5', w6', w7'⟩ := MUL.out t t1 t2; obtain ⟨kbv, kmv, krv, hgw⟩ := ARM.out v ⟨hgv.os, hgv.tape, hgv.output, hgv.size, hgv.block⟩; have v2 := kmv.cell 2; simp at v2; have bv := BV.out v kbv; have ov := kbv.frozen (q * 2 + 1); have lv := kbv.lt)
          all_goals (try go_wp2_with fail)
          all_goals
            obtain ⟨h', p1, p2⟩ := put_y (n := N) (i := q) (l := fun j => if j = q then ⟨x3, (L q).f1⟩ else L j) (x := (L q).f1 + (t * z / 60000 - z / 2)) kbv HH3.out
            have gB := only_setCell (World.grownBy.refl v (some B)) (p := ⟨B, q * 2 + 1, none⟩) (.inl rfl) (.int .i64 ((L q).f1 + (t * z / 60000 - z / 2)))
            have hs5 := hsv.grown gB (fun b e => by injection e with e; subst e; exact ⟨sB.symm, fun ad ha hm => by have := hA ad ha hm; omega⟩)
            go_roundw
            case rel =>
              refine ⟨q + 1, h', fun j => if j = q then ⟨x3, (L q).f1 + (t * z / 60000 - z / 2)⟩ else L j, by omega, by go_num, p1, fun j hj => (p2 j hj).trans (spotC_same j (fun i => by by_cases e : i = q <;> simp [e])), fun j hj => ?_, fun j h1 h2 => ?_, hs5.more (by omega), kmv.far (p := ⟨B, q * 2 + 1, none⟩) BM.symm _, krv.far (p := ⟨B, q * 2 + 1, none⟩) BR.symm _, only_setCell hgw (p := ⟨B, q * 2 + 1, none⟩) (.inr wB) _⟩
              · by_cases e : j = q
                · simp only [if_pos e]; exact ⟨⟨X1, X2⟩, w6', w7'⟩
                · simp only [if_neg e]; exact HL1.out j hj
              · simp only [if_neg (show ¬ j = q by omega)]; exact HL2.out j (by omega) h2
            case measure => simp [intOf]; omega
        · go_wp2_with fail
          go_roundw
          case rel => exact ⟨q + 1, h, L, by omega, by go_num, blk_grown kb hgp (hne sB), HH.out, HL1.out, fun j h1 h2 => HL2.out j (by omega) h2, hsp.more (by omega), blk_grown km hgp (hne sM), blk_grown kr hgp (hne sR), hg.trans hgp⟩
          case measure => simp [intOf]; omega
      · go_wp2_with fail
        go_roundw
        case rel => exact ⟨q + 1, h, L, by omega, by go_num, kb, HH.out, HL1.out, fun j h1 h2 => HL2.out j (by omega) h2, hsr.more (by omega), km, kr, hg⟩
        case measure => simp [intOf]; omega
    · have hqN' : ¬ (q : Int) < (N : Int) := by omega
      have d0 := kr.cell 0
      have d1 := kr.cell 1
      have d2 := kr.cell 2
      simp at d0 d1 d2
      have dl := kr.lt
      have og0 := kr.frozen 0
      have og1 := kr.frozen 1
      have og2 := kr.frozen 2
      have km' := (((km.far (p := ⟨w.heap.size, 0, none⟩) RM.symm (.int .i64 (2 + x))).far (p := ⟨w.heap.size, 1, none⟩) RM.symm (.int .i64 (2 + y))).far (p := ⟨w.heap.size, 2, none⟩) RM.symm (.slice (some ⟨B, 0, none⟩) N c4))
      have kb' := (((kb.far (p := ⟨w.heap.size, 0, none⟩) BR (.int .i64 (2 + x))).far (p := ⟨w.heap.size, 1, none⟩) BR (.int .i64 (2 + y))).far (p := ⟨w.heap.size, 2, none⟩) BR (.slice (some ⟨B, 0, none⟩) N c4))
      have hg' := only_setCell (only_setCell (only_setCell hg (p := ⟨w.heap.size, 0, none⟩) (.inr (Nat.le_refl _)) (.int .i64 (2 + x))) (p := ⟨w.heap.size, 1, none⟩) (.inr (Nat.le_refl _)) (.int .i64 (2 + y))) (p := ⟨w.heap.size, 2, none⟩) (.inr (Nat.le_refl _)) (.slice (some ⟨B, 0, none⟩) N c4)
      have kr' := ((kr.set_ 0 (.int .i64 (2 + x))).set_ 1 (.int .i64 (2 + y))).set_ 2 (.slice (some ⟨B, 0, none⟩) N c4)
      have z0 := kr'.cell 0
      have z1 := kr'.cell 1
      have z2 := kr'.cell 2
      simp at z0 z1 z2
      go_wp2_with fail
      refine bodyPost_ret (v := .agg #[.int .i64 (2 + x), .int .i64 (2 + y), .slice (some ⟨B, 0, none⟩) N c4]) (by simp [results, Tryd.results97, go_sem, z0, z1, z2]) rfl ⟨⟨_, _, _, _, _, L, rfl, ?_, ?_⟩, hg'⟩
      · obtain ⟨hC, hR, hNN, _⟩ := HP.out
        exact ⟨hC, hR, hNN, fun j hj => by obtain ⟨⟨a, b⟩, c, d⟩ := HL1.out j hj; exact plane_iff.2 ⟨⟨by omega, by omega⟩, by omega, by omega⟩⟩
      · exact Own.blk kb' wB hms HH.out
end Go.Proofs.YthjllledhcfnhaaDoor
