/- EvenPowers. Conditions: the slice reads as projectors, one or more. -/
import Derived.Test.YtikonccofaiceaaProj
import Derived.Test.YtikonccofaiceaaSProjector
import Derived.Test.YtikonccofaiceaaMinMax
import Derived.Test.YtikonccofaiceaaTail
import Derived.LoopN
namespace Go.Ks
open Go.RowKit Go.Lib
/-- the least of x and the powers of the first k -/
def evP (l : Nat → ProjectorD) (x : Int) : Nat → Int
  | 0 => x
  | k + 1 => min (evP l x k) (l k).f4
/-- element k is at its j-th power -/
def evD (n : Nat) (l : Nat → ProjectorD) (k j : Nat) (i : Nat) : ProjectorD := ⟨(l i).f0, (l i).f1, (l i).f2, (l i).f3, if i < k then evP l (l i).f4 n else if i = k then evP l (l k).f4 j else (l i).f4⟩
def mEvenPowersL (n : Nat) (l : Nat → ProjectorD) (i : Nat) : ProjectorD := ⟨(l i).f0, (l i).f1, (l i).f2, (l i).f3, evP l (l i).f4 n⟩
theorem evC_cell {D : Nat → ProjectorD} {i r : Nat} (h : r < 5) : ProjectorC D (i * 5 + r) = ProjectorF D r i := by
  unfold ProjectorC
  rw [rc_at _ _ _ h]
theorem ev_cases (q : Nat) : ∃ i r, r < 5 ∧ q = i * 5 + r := ⟨q / 5, q % 5, Nat.mod_lt _ (by omega), by omega⟩
theorem ev_congr {D D' : Nat → ProjectorD} {n : Nat} (h : ∀ i, i < n → D i = D' i) : ∀ q, q < n * 5 → ProjectorC D q = ProjectorC D' q := fun q hq => by
  obtain ⟨i, r, hr, rfl⟩ := ev_cases q
  have e := h i (by omega)
  rw [evC_cell hr, evC_cell hr]
  match r, hr with
  | 0, _ => show Value.string _ = Value.string _; rw [e]
  | 1, _ => show Value.int .i64 _ = Value.int .i64 _; rw [e]
  | 2, _ => show Value.int .i64 _ = Value.int .i64 _; rw [e]
  | 3, _ => show Value.int .i64 _ = Value.int .i64 _; rw [e]
  | 4, _ => show Value.int .i64 _ = Value.int .i64 _; rw [e]
theorem ev_start (n : Nat) (l : Nat → ProjectorD) : ∀ i, evD n l 0 0 i = l i := fun i => by
  unfold evD
  rw [if_neg (by omega)]
  by_cases h : i = 0
  · rw [if_pos h, h]; rfl
  · rw [if_neg h]
theorem ev_next (n : Nat) (l : Nat → ProjectorD) (k : Nat) : ∀ i, evD n l k n i = evD n l (k + 1) 0 i := fun i => by
  unfold evD
  by_cases h : i < k
  · rw [if_pos h, if_pos (by omega)]
  · by_cases h2 : i = k
    · subst h2; rw [if_neg h, if_pos rfl, if_pos (by omega)]
    · rw [if_neg h, if_neg h2, if_neg (by omega)]
      by_cases h3 : i = k + 1
      · rw [if_pos h3, h3]; rfl
      · rw [if_neg h3]
theorem ev_end (n : Nat) (l : Nat → ProjectorD) : ∀ i, i < n → evD n l n 0 i = mEvenPowersL n l i := fun i hi => by
  unfold evD mEvenPowersL
  rw [if_pos hi]
theorem ev_at (n : Nat) (l : Nat → ProjectorD) (k j : Nat) : (evD n l k j k).f4 = evP l (l k).f4 j := by
  unfold evD
  rw [if_neg (by omega), if_pos rfl]
theorem ev_step (n : Nat) (l : Nat → ProjectorD) (k j : Nat) (q : Nat) : (if q = k * 5 + 4 then Value.int .i64 (evP l (l k).f4 (j + 1)) else ProjectorC (evD n l k j) q) = ProjectorC (evD n l k (j + 1)) q := by
  by_cases h : q = k * 5 + 4
  · rw [if_pos h, h, ProjectorC4, ev_at]
  · rw [if_neg h]
    obtain ⟨i, r, hr, rfl⟩ := ev_cases q
    rw [evC_cell hr, evC_cell hr]
    match r, hr with
    | 0, _ => rfl
    | 1, _ => rfl
    | 2, _ => rfl
    | 3, _ => rfl
    | 4, _ =>
      have hik : i ≠ k := by omega
      show Value.int .i64 (evD n l k j i).f4 = Value.int .i64 (evD n l k (j + 1) i).f4
      unfold evD
      simp only [if_neg hik]
/-- the block of the powers -/
def EvB (w : World) (B : Nat) (t : TypeId) (n : Nat) (D : Nat → ProjectorD) : Prop := ∃ m h, Blk w B t (arr m h) ∧ n * 5 ≤ m ∧ ∀ q, q < n * 5 → h q = ProjectorC D q
theorem EvB.congr {w : World} {B : Nat} {t : TypeId} {n : Nat} {D D' : Nat → ProjectorD} (h : EvB w B t n D) (he : ∀ i, i < n → D i = D' i) : EvB w B t n D' := by
  obtain ⟨m, f, h1, h2, h3⟩ := h
  exact ⟨m, f, h1, h2, fun q hq => (h3 q hq).trans (ev_congr he q hq)⟩
theorem EvB.below {w w' : World} {B : Nat} {t : TypeId} {n : Nat} {D : Nat → ProjectorD} (h : EvB w B t n D) (hb : Below w.heap.size w w') : EvB w' B t n D := by
  obtain ⟨m, f, h1, h2, h3⟩ := h
  exact ⟨m, f, h1.below hb h1.lt, h2, h3⟩
theorem EvB.lt {w : World} {B : Nat} {t : TypeId} {n : Nat} {D : Nat → ProjectorD} (h : EvB w B t n D) : B < w.heap.size := by
  obtain ⟨m, f, h1, _⟩ := h
  exact h1.lt
theorem EvB.cell4 {w : World} {B : Nat} {t : TypeId} {n k : Nat} {D : Nat → ProjectorD} (h : EvB w B t n D) (hk : k < n) : w.cell? ⟨B, k * 5 + 4, none⟩ = some (.int .i64 (D k).f4) := by
  obtain ⟨m, f, h1, h2, h3⟩ := h
  rw [h1.cell, arr_get _ _ _ (by omega), h3 _ (by omega), ProjectorC4]
theorem EvB.open4 {w : World} {B : Nat} {t : TypeId} {n : Nat} {D : Nat → ProjectorD} (h : EvB w B t n D) (i : Nat) : w.frozen? ⟨B, i, none⟩ = false := by
  obtain ⟨m, f, h1, _⟩ := h
  exact h1.frozen i
theorem EvB.put {w : World} {B : Nat} {t : TypeId} {n k j : Nat} {l : Nat → ProjectorD} (h : EvB w B t n (evD n l k j)) : EvB (w.setCell ⟨B, k * 5 + 4, none⟩ (.int .i64 (evP l (l k).f4 (j + 1)))) B t n (evD n l k (j + 1)) := by
  obtain ⟨m, f, h1, h2, h3⟩ := h
  have h4 := h1.set_ (k * 5 + 4) (.int .i64 (evP l (l k).f4 (j + 1)))
  rw [arr_set] at h4
  refine ⟨m, _, h4, h2, fun q hq => ?_⟩
  rw [← ev_step]
  by_cases e : q = k * 5 + 4
  · rw [if_pos e, if_pos e]
  · rw [if_neg e, if_neg e, h3 q hq]
theorem EvB.own {w : World} {B base : Nat} {t : TypeId} {n : Nat} {D : Nat → ProjectorD} (h : EvB w B t n D) (hB : base ≤ B) : Own w base t 5 (some ⟨B, 0, none⟩) n (ProjectorC D) := by
  obtain ⟨m, f, h1, h2, h3⟩ := h
  exact Own.blk h1 hB h2 h3
theorem evP_bd {l : Nat → ProjectorD} {n : Nat} (h : ∀ k, k < n → 1 ≤ (l k).f4 ∧ (l k).f4 ≤ 1000) {x : Int} (hx : 1 ≤ x ∧ x ≤ 1000) : ∀ k, k ≤ n → 1 ≤ evP l x k ∧ evP l x k ≤ 1000
  | 0, _ => hx
  | k + 1, hk => by
    have ih := evP_bd h hx k (by omega)
    have h2 := h k (by omega)
    unfold evP
    omega
end Go.Ks
namespace Go.Proofs.Ytikonccofaiceaa
open Go.RowKit Go.Lib Go.Ks
theorem of_alloc {w w' : World} {cs : Array Value} {t : TypeId} (h : w.alloc (.cells cs t) = w') : Below w.heap.size w w' ∧ Blk w' w.heap.size t cs := by rw [← h]; exact ⟨(Below.refl _ _).alloc (Nat.le_refl _) _, Blk.new w t cs⟩
theorem b_cases (b : Bool) : b = false ∨ b = true := by cases b <;> simp
noncomputable def mEvenPowersN (n : Nat) (l : Nat → ProjectorD) : Nat := if projsB n l = true then n else 0
noncomputable def mEvenPowersC (n : Nat) (l : Nat → ProjectorD) : Int := if projsB n l = true then 0 else 1
section
variable {n : Nat} {l : Nat → ProjectorD}
theorem mEv_no (q : projsB n l = false) : mEvenPowersN n l = 0 ∧ mEvenPowersC n l = 1 := by simp [mEvenPowersN, mEvenPowersC, q]
theorem mEv_in (q : projsB n l = true) : mEvenPowersN n l = n ∧ mEvenPowersC n l = 0 := by simp [mEvenPowersN, mEvenPowersC, q]
theorem mEvenPowers_len (n : Nat) (l : Nat → ProjectorD) : mEvenPowersN n l ≤ 1048576 := by
  unfold mEvenPowersN
  split
  · rename_i h
    have := (projsB_of h).1
    omega
  · omega
end
instance (b off : Nat) : Nonempty {p : Nat × Nat // some (⟨b, off, none⟩ : Addr) = some ⟨p.1, p.2, none⟩} := ⟨⟨(b, off), rfl⟩⟩
theorem sl_at {w : World} {b off m : Nat} {f : Nat → Value} (h : Sl w (some ⟨b, off, none⟩) m f) : ∀ j, j < m → b < w.heap.size ∧ w.cell? ⟨b, off + j, none⟩ = some (f j) := fun j hj => by
  obtain ⟨b', off', hA, hb, hc⟩ := h (by omega)
  cases hA
  exact ⟨hb, hc j hj⟩
theorem retS5 {w w' : World} {f : Nat → Value} {n n' : Nat} {code code' : Int} {B c : Nat} (hn : n = n') (hc : code = code') (ho : Own w' w.heap.size 57 5 (some ⟨B, 0, none⟩) n' f) : RetS w w' 57 5 n f code (.returned (.tuple #[.slice (some ⟨B, 0, none⟩) n' c, .int .i64 code'])) := by
  subst hn hc
  exact ⟨_, c, rfl, ho, fun h => by cases h⟩
theorem rets_none5 {w w' : World} {f : Nat → Value} {n : Nat} {code code' : Int} (hn : n = 0) (hc : code = code') : RetS w w' 57 5 n f code (.returned (.tuple #[.slice none 0 0, .int .i64 code'])) := by
  subst hn hc
  exact ⟨none, 0, rfl, Own.nil _ _ _ _ _, fun _ => rfl⟩
set_option maxRecDepth 100000 in
set_option maxHeartbeats 4000000 in
theorem specEvenPowers_any (A : Option Addr) (n c : Nat) [hz : Nonempty {p : Nat × Nat // A = some ⟨p.1, p.2, none⟩}] (l : Nat → ProjectorD) (w : World) (hn : n ≤ 1048576) (hs : Sl w A (n * 5) (ProjectorC l)) (hg : ∀ k, k < n → ProjectorOk (l k)) :
    Calls Try.prog 24 #[.slice A n c] w fun e w' => RetS w w' 57 5 (mEvenPowersN n l) (ProjectorC (mEvenPowersL n l)) (mEvenPowersC n l) e ∧ Below w.heap.size w w' := by
  obtain ⟨⟨⟨ab, off⟩, hA⟩⟩ := hz
  obtain rfl : A = some ⟨ab, off, none⟩ := hA
  rcases b_cases (projsB n l) with q | q
  · have E := Lib.hid (mEv_no q)
    go_enter Try.func24, Try.ntmps24
    go_wp2_with fail
    refine (l10Ok_any _ _ _ l _ hn hs hg).mono ?_
    rintro e w1 ⟨rfl, hb1⟩
    go_wp2_with fail
    go_ret2
    exact ⟨rets_none5 E.out.1 E.out.2, hb1⟩
  have E := Lib.hid (mEv_in q)
  have OK := Lib.hid (projsB_of q)
  have n6 : n ≤ 6 := OK.out.1
  have n6' : (n : Int) ≤ 6 := by omega
  have PW : ∀ k, k < n → 1 ≤ (l k).f4 ∧ (l k).f4 ≤ 1000 := fun k hk => (proj_dir (OK.out.2 k hk).1).2.2.2
  have HPW := Lib.hid PW
  obtain ⟨i0, hi, hz0, hz1, hz2⟩ := info_parts Try.infoC57
  have HC := Lib.hid (sl_at hs)
  clear PW
  go_enter Try.func24, Try.ntmps24
  go_wp2_with fail
  refine (l10Ok_any _ _ _ l _ hn hs hg).mono ?_
  rintro e w1 ⟨rfl, hb1⟩
  go_wp2_with (at_builtin; refine wpList_append_all rfl _ _ 40 rfl w1.heap.size 57 i0 _ 5 48 Try.underlying40 hi hz0 hz1 hz2 rfl (by decide) _ (ProjectorC l) rfl (Row.empty _ _ _ _ (Nat.le_refl _)) ab off n c rfl ?c1 (fun j _ => oneProjector l j) ?c3 ?c4 ?c5 ?_)
  case c1 => intro j hj; have hq := HC.out j hj; rw [World.cell?_alloc_past (n := ab) (i := off + j) _ (Nat.lt_of_lt_of_le hq.1 hb1.size), hb1.cell (p := ⟨ab, off + j, none⟩) (by exact hq.1)]; exact hq.2
  case c3 => omega
  case c4 => omega
  case c5 => simp
  intro v' w5 hrow5 hg5
  have hbl5 : Below w.heap.size w w5 := (hb1.alloc hb1.size _).grown hg5 (by simp; have := hb1.size; omega) (fun k hk => by simp [Value.ownBlock] at hk; have := hb1.size; omega)
  obtain ⟨A', c', rfl, _, hown, hz⟩ := hrow5.own
  rcases hown with ⟨rfl, h0⟩ | ⟨B, m, h, rfl, hB, hblk, hm, hf⟩
  · obtain rfl := hz rfl
    have hn0 : ¬ 0 < (n : Int) := by omega
    clear hg5 hrow5
    go_wp2_with fail
    refine wp_loop_rounds 1 ?_
    rw [rounds_succ]
    go_wp2_with fail
    go_ret2
    subst h0
    exact ⟨rets_none5 E.out.1 E.out.2, hbl5⟩
  have B0 : EvB w5 B 57 n (evD n l 0 0) := EvB.congr ⟨m, h, hblk, hm, hf⟩ (fun i _ => (ev_start n l i).symm)
  have hBw : w.heap.size ≤ B := by have := hb1.size; omega
  clear hg5 hrow5 hblk hm hf hz q
  go_wp2_with fail
  go_loopw [5] (fun i wr => ∃ k : Nat, k ≤ n ∧ i = .int .i64 (k : Int) ∧ EvB wr B 57 n (evD n l k 0) ∧ Below w.heap.size w wr) (fun i _ => n - (intOf i).toNat)
  case atStart => exact ⟨0, Nat.zero_le _, rfl, B0, hbl5⟩
  case round =>
    obtain ⟨k, hk, rfl, hev, hbl⟩ := hrel
    by_cases hlt : k < n
    · have hlt' : (k : Int) < (n : Int) := by omega
      go_wp2_with fail
      obtain ⟨wo, rfl⟩ : ∃ wo : World, wo = wr := ⟨_, rfl⟩
      clear hlt'
      go_loopw [6] (fun i wr => ∃ j : Nat, j ≤ n ∧ i = .int .i64 (j : Int) ∧ EvB wr B 57 n (evD n l k j) ∧ Below w.heap.size w wr) (fun i _ => n - (intOf i).toNat)
      case atStart => exact ⟨0, Nat.zero_le _, rfl, hev, hbl⟩
      case round =>
        obtain ⟨j, hj, rfl, hev, hbl⟩ := hrel
        by_cases hjt : j < n
        · have c4 := hev.cell4 hlt
          rw [ev_at] at c4
          have o4 := hev.open4 (k * 5 + 4)
          have bl := hev.lt
          have a4 : wr.cell? ⟨ab, off + j * 5 + 4, none⟩ = some (.int .i64 (l j).f4) := by rw [hbl.cell (by exact (HC.out 0 (by omega)).1), Nat.add_assoc, (HC.out _ (by omega)).2, ProjectorC4]
          have abl : ab < wr.heap.size := Nat.lt_of_lt_of_le (HC.out 0 (by omega)).1 hbl.size
          have PE := evP_bd HPW.out (HPW.out k hlt) j hj
          obtain ⟨pe1, pe2⟩ := PE
          have PJ := HPW.out j hjt
          obtain ⟨pj1, pj2⟩ := PJ
          have HX := Lib.hid (show evP l (l k).f4 (j + 1) = min (evP l (l k).f4 j) (l j).f4 from rfl)
          go_wp2_with fail
          refine wp_region_ext_tail 0 15 (by kernel_rfl) (by kernel_rfl) (fun d _ _ _ _ h => by cases d <;> exact h) ?_
          simp only [List.take_succ_cons, List.take_zero, List.drop_succ_cons, List.drop_zero]
          repeat (go_big_quiet_step ((go_at_call 42; exact quiet_ext ((l00Min_eq _ _ _).mono fun _ _ h => ⟨h.1, h.2 ▸ Below.refl _ _⟩))))
          refine wpQuiet_nil ?_
          intro e1
          have hev1 := hev.below e1.below
          have o5 := hev1.open4 (k * 5 + 4)
          have bl5 := hev1.lt
          have c5 := hev1.cell4 hlt
          rw [ev_at] at c5
          have hb1 := hbl.trans (e1.below.mono hbl.size)
          go_wp2_with fail
          go_roundw
          case rel => exact ⟨j + 1, by omega, by go_num, hev1.put, hb1.setCell hBw _⟩
          case measure => simp [intOf]; omega
        · obtain rfl : j = n := by omega
          go_wp2_with fail
          go_roundw
          case rel => exact ⟨k + 1, by omega, by go_num, hev.congr (fun i _ => ev_next _ l k i), hbl⟩
          case measure => simp [intOf]; omega
    · obtain rfl : k = n := by omega
      have ho := (hev.congr (fun i hi => ev_end _ l i hi)).own hBw
      go_wp2_with fail
      go_ret2
      exact ⟨retS5 E.out.1 E.out.2 ho, hbl⟩
end Go.Proofs.Ytikonccofaiceaa
