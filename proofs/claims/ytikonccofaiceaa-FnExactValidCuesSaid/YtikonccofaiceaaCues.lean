/- ValidCues of the reference and of the program. Conditions: the slice reads as cues. -/
import Derived.Test.YtikonccofaiceaaCue
import Derived.Test.YtikonccofaiceaaProj
import Derived.Test.YtikonccofaiceaaTail
import Derived.LoopN
namespace Go.Proofs.Ytikonccofaiceaa
open Go.RowKit Go.Lib Go.Ks
/-- where a name stands first among the first k cues; -1 -/
def findTo (l : Nat → CueD) (s : ByteArray) : Nat → Int
  | 0 => -1
  | k + 1 => if 0 ≤ findTo l s k then findTo l s k else if (l k).f0.toList == s.toList then (k : Int) else -1
def NoId (l : Nat → CueD) (s : ByteArray) (k : Nat) : Prop := ∀ j, j < k → ((l j).f0.toList == s.toList) = false
section
variable {l : Nat → CueD} {s : ByteArray}
theorem find_none : ∀ {k : Nat}, NoId l s k → findTo l s k = -1
  | 0, _ => rfl
  | k + 1, h => by
    unfold findTo
    rw [find_none (k := k) (fun j hj => h j (by omega)), if_neg (by omega), h k (by omega)]
    rfl
theorem find_at {k : Nat} (h : NoId l s k) (hk : ((l k).f0.toList == s.toList) = true) : ∀ m, k < m → findTo l s m = (k : Int)
  | 0, hm => absurd hm (by omega)
  | m + 1, hm => by
    unfold findTo
    by_cases e : m = k
    · subst e
      rw [find_none h, if_neg (by omega), if_pos hk]
    · rw [find_at h hk m (by omega), if_pos (by omega)]
theorem noId_cases (l : Nat → CueD) (s : ByteArray) : ∀ n, NoId l s n ∨ ∃ k, k < n ∧ NoId l s k ∧ ((l k).f0.toList == s.toList) = true
  | 0 => .inl (fun j hj => absurd hj (by omega))
  | n + 1 => by
    rcases noId_cases l s n with h | ⟨k, hk, h1, h2⟩
    · cases q : (l n).f0.toList == s.toList
      · refine .inl (fun j hj => ?_)
        by_cases e : j = n
        · subst e; exact q
        · exact h j (by omega)
      · exact .inr ⟨n, by omega, h, q⟩
    · exact .inr ⟨k, by omega, h1, h2⟩
theorem find_neg (n : Nat) : findTo l s n < 0 ↔ NoId l s n := by
  constructor
  · intro h
    rcases noId_cases l s n with h1 | ⟨k, hk, h1, h2⟩
    · exact h1
    · rw [find_at h1 h2 n hk] at h; omega
  · intro h
    rw [find_none h]; omega
/-- a name that stands at place k stands there first just if it does not stand before -/
theorem find_self {n k : Nat} (hk : k < n) : findTo l (l k).f0 n < (k : Int) ↔ ¬ NoId l (l k).f0 k := by
  have hself : ((l k).f0.toList == (l k).f0.toList) = true := beq_self_eq_true _
  rcases noId_cases l (l k).f0 k with h | ⟨j, hj, h1, h2⟩
  · rw [find_at h hself n hk]
    constructor
    · intro h'; omega
    · intro h'; exact absurd h h'
  · rw [find_at h1 h2 n (by omega)]
    constructor
    · intro _ h'
      have := h' j hj
      rw [h2] at this
      cases this
    · intro _; omega
theorem find_bd (n : Nat) : -1 ≤ findTo l s n ∧ findTo l s n < (n : Int) + 1 := by
  rcases noId_cases l s n with h | ⟨k, hk, h1, h2⟩
  · rw [find_none h]; omega
  · rw [find_at h1 h2 n hk]; omega
end
/-- a cue stands ahead of another -/
def CueLt (a b : CueD) : Prop := a.f1 < b.f1 ∨ (a.f1 = b.f1 ∧ strLt a.f0 b.f0)
def CueStand (l : Nat → CueD) (k : Nat) : Prop := cueB (l k) = true ∧ NoId l (l k).f0 k ∧ (0 < k → CueLt (l (k - 1)) (l k))
def CuesOk (n : Nat) (l : Nat → CueD) : Prop := n ≤ 32 ∧ ∀ k, k < n → CueStand l k
open Classical in
noncomputable def cuesB (n : Nat) (l : Nat → CueD) : Bool := decide (CuesOk n l)
theorem cuesB_no {n : Nat} {l : Nat → CueD} (h : ¬ CuesOk n l) : cuesB n l = false := by simp [cuesB, h]
theorem cuesB_yes {n : Nat} {l : Nat → CueD} (h : CuesOk n l) : cuesB n l = true := by simp [cuesB, h]
open Classical in
noncomputable def cueLtB (a b : CueD) : Bool := decide (CueLt a b)
theorem cueLtB_iff {a b : CueD} : cueLtB a b = true ↔ CueLt a b := by simp [cueLtB]
theorem cueLtB_no {a b : CueD} (h : ¬ CueLt a b) : cueLtB a b = false := by simp [cueLtB, h]
theorem cueLtB_yes {a b : CueD} (h : CueLt a b) : cueLtB a b = true := by simp [cueLtB, h]
/-- the four ways two cues may stand -/
theorem cueLt_split (a b : CueD) : (a.f1 < b.f1 ∧ cueLtB a b = true) ∨ (b.f1 < a.f1 ∧ cueLtB a b = false) ∨ (a.f1 = b.f1 ∧ Go.Op.bytesLess a.f0.toList b.f0.toList = true ∧ cueLtB a b = true) ∨ (a.f1 = b.f1 ∧ Go.Op.bytesLess a.f0.toList b.f0.toList = false ∧ cueLtB a b = false) := by
  rcases Int.lt_trichotomy a.f1 b.f1 with h | h | h
  · exact .inl ⟨h, cueLtB_yes (.inl h)⟩
  · cases q : Go.Op.bytesLess a.f0.toList b.f0.toList
    · exact .inr (.inr (.inr ⟨h, rfl, cueLtB_no (fun h' => by rcases h' with h' | ⟨_, h'⟩; omega; unfold strLt at h'; rw [q] at h'; cases h')⟩))
    · exact .inr (.inr (.inl ⟨h, rfl, cueLtB_yes (.inr ⟨h, q⟩)⟩))
  · exact .inr (.inl ⟨h, cueLtB_no (fun h' => by rcases h' with h' | ⟨h', _⟩ <;> omega)⟩)
set_option maxHeartbeats 2000000 in
theorem l13Find_any (A : Option Addr) (n c : Nat) (l : Nat → CueD) (s : ByteArray) (w : World) (hn : n ≤ 1048576) (hs : Sl w A (n * 6) (CueC l)) :
    Calls Try.prog 48 #[.slice A n c, .string s] w fun e w' => e = .returned (.int .i64 (findTo l s n)) ∧ Below w.heap.size w w' := by
  have hn3 : (n : Int) ≤ 1048576 := by omega
  go_enter Try.func48, Try.ntmps48
  go_wp2_with fail
  go_loopw [5] (fun i wr => ∃ k : Nat, k ≤ n ∧ i = .int .i64 k ∧ Below w.heap.size w wr ∧ NoId l s k) (fun i _ => n - (intOf i).toNat)
  case atStart => exact ⟨0, Nat.zero_le _, rfl, Below.refl _ _, fun j hj => absurd hj (by omega)⟩
  case round =>
    obtain ⟨k, hk, rfl, hbl, hno⟩ := hrel
    have HNO := Lib.hid hno
    clear hno
    by_cases hlt : k < n
    · obtain ⟨b, off, rfl, hc⟩ := CueAt.of_sl hs (by omega)
      obtain ⟨hbr, d0, d1, d2, d3, d4, d5⟩ := (hc k hlt).below hbl
      clear hc
      cases q : (l k).f0.toList == s.toList
      · have HN2 := Lib.hid (show NoId l s (k + 1) from fun j hj => by
          by_cases e : j = k
          · subst e; exact q
          · exact HNO.out j (by omega))
        go_wp2_with fail
        go_roundw
        case rel => exact ⟨k + 1, by omega, by go_num, hbl, HN2.out⟩
        case measure => simp [intOf]; omega
      · have E := Lib.hid (find_at HNO.out q n hlt)
        go_wp2_with fail
        go_ret
        exact ⟨ret_int E.out.symm, hbl⟩
    · obtain rfl : k = n := by omega
      have E := Lib.hid (find_none HNO.out)
      go_wp2_with fail
      go_ret
      exact ⟨ret_int E.out.symm, hbl⟩
set_option maxHeartbeats 2000000 in
theorem l13Before_any (b o b' o' : Nat) (x y : CueD) (w : World) (hx : CueAt w b o x) (hy : CueAt w b' o' y) :
    Calls Try.prog 49 #[.pointer (some ⟨b, o, none⟩), .pointer (some ⟨b', o', none⟩)] w fun e w' => e = .returned (.bool (cueLtB x y)) ∧ Below w.heap.size w w' := by
  obtain ⟨hlt, c0, c1, c2, c3, c4, c5⟩ := hx
  obtain ⟨hlt', d0, d1, d2, d3, d4, d5⟩ := hy
  rcases cueLt_split x y with ⟨h, E⟩ | ⟨h, E⟩ | ⟨h, q, E⟩ | ⟨h, q, E⟩
  · have EE := Lib.hid E
    have h9 := decide_eq_true h
    clear E
    go_enter Try.func49, Try.ntmps49
    go_wp2_with fail
    refine wp_region_ext (by kernel_rfl) (by kernel_rfl) ?_
    repeat (go_big_quiet_step (fail))
    refine wpQuiet_nil ?_
    intro e1
    go_wp2_with fail
    go_ret
    exact ⟨ret_bool EE.out.symm, e1.below⟩
  · have EE := Lib.hid E
    have h1 : ¬ x.f1 < y.f1 := by omega
    have h9 := decide_eq_false h1
    have h2 : (x.f1 == y.f1) = false := by simp; omega
    clear E h
    go_enter Try.func49, Try.ntmps49
    go_wp2_with fail
    refine wp_region_ext (by kernel_rfl) (by kernel_rfl) ?_
    repeat (go_big_quiet_step (fail))
    refine wpQuiet_nil ?_
    intro e1
    go_wp2_with fail
    go_ret
    exact ⟨ret_bool EE.out.symm, e1.below⟩
  all_goals
    have EE := Lib.hid E
    have h1 : ¬ x.f1 < y.f1 := by omega
    have h9 := decide_eq_false h1
    have h2 : (x.f1 == y.f1) = true := by simp; omega
    clear E h
    go_enter Try.func49, Try.ntmps49
    go_wp2_with fail
    refine wp_region_ext (by kernel_rfl) (by kernel_rfl) ?_
    repeat (go_big_quiet_step (fail))
    refine wpQuiet_nil ?_
    intro e1
    go_wp2_with fail
    go_ret
    exact ⟨ret_bool EE.out.symm, e1.below⟩
/-- what cmp.Compare answers -/
def cmpI (a b : Int) : Int := if a < b then -1 else if b < a then 1 else 0
def cmpS (a b : ByteArray) : Int := if Go.Op.bytesLess a.toList b.toList = true then -1 else if (a.toList == b.toList) = true then 0 else 1
def orI (a b : Int) : Int := if a = 0 then b else a
def cmpC (x y : CueD) : Int := orI (cmpI x.f1 y.f1) (cmpS x.f0 y.f0)
theorem cmpC_lt {x y : CueD} (h : cueLtB x y = true) : cmpC x y < 0 := by
  rcases cueLtB_iff.1 h with h | ⟨h, q⟩
  · unfold cmpC orI cmpI; rw [if_pos h, if_neg (by decide)]; decide
  · unfold strLt at q
    unfold cmpC orI cmpI cmpS
    rw [if_neg (show ¬ x.f1 < y.f1 by omega), if_neg (show ¬ y.f1 < x.f1 by omega), if_pos q]
    decide
theorem cmpC_ge {x y : CueD} (h : cueLtB x y = false) : 0 ≤ cmpC x y := by
  have hn : ¬ CueLt x y := fun h' => by rw [cueLtB_yes h'] at h; cases h
  unfold cmpC orI cmpI cmpS
  by_cases h1 : x.f1 < y.f1
  · exact absurd (.inl h1) hn
  rw [if_neg h1]
  by_cases h2 : y.f1 < x.f1
  · rw [if_pos h2, if_neg (by decide)]; decide
  rw [if_neg h2, if_pos rfl]
  by_cases h3 : Go.Op.bytesLess x.f0.toList y.f0.toList = true
  · exact absurd (.inr ⟨by omega, h3⟩) hn
  rw [if_neg h3]
  split <;> decide
theorem compareInt_eq (a b : Int) (w : World) :
    Calls Try.prog 51 #[.int .i64 a, .int .i64 b] w fun e w' => e = .returned (.int .i64 (cmpI a b)) ∧ w = w' := by
  by_cases h1 : a < b
  · have E := Lib.hid (show cmpI a b = -1 from if_pos h1)
    go_enter Try.func51, Try.ntmps51
    go_wp2
    go_ret
    exact ⟨ret_int E.out.symm, rfl⟩
  by_cases h2 : b < a
  · have E := Lib.hid (show cmpI a b = 1 from (if_neg h1).trans (if_pos h2))
    go_enter Try.func51, Try.ntmps51
    go_wp2
    go_ret
    exact ⟨ret_int E.out.symm, rfl⟩
  · have E := Lib.hid (show cmpI a b = 0 from (if_neg h1).trans (if_neg h2))
    go_enter Try.func51, Try.ntmps51
    go_wp2
    go_ret
    exact ⟨ret_int E.out.symm, rfl⟩
theorem compareStr_eq (a b : ByteArray) (w : World) :
    Calls Try.prog 52 #[.string a, .string b] w fun e w' => e = .returned (.int .i64 (cmpS a b)) ∧ w = w' := by
  cases h1 : Go.Op.bytesLess a.toList b.toList
  · cases h2 : a.toList == b.toList
    · have E := Lib.hid (show cmpS a b = 1 from (if_neg (by rw [h1]; simp)).trans (if_neg (by rw [h2]; simp)))
      go_enter Try.func52, Try.ntmps52
      go_wp2
      go_ret
      exact ⟨ret_int E.out.symm, rfl⟩
    · have E := Lib.hid (show cmpS a b = 0 from (if_neg (by rw [h1]; simp)).trans (if_pos h2))
      go_enter Try.func52, Try.ntmps52
      go_wp2
      go_ret
      exact ⟨ret_int E.out.symm, rfl⟩
  · have E := Lib.hid (show cmpS a b = -1 from if_pos h1)
    go_enter Try.func52, Try.ntmps52
    go_wp2
    go_ret
    exact ⟨ret_int E.out.symm, rfl⟩
set_option maxHeartbeats 1000000 in
theorem cmpOr_any (B : Nat) (a b : Int) (w : World) (hB : Blk w B 3 #[.int .i64 a, .int .i64 b]) :
    Calls Try.prog 50 #[.slice (some ⟨B, 0, none⟩) 2 2] w fun e w' => e = .returned (.int .i64 (orI a b)) ∧ w = w' := by
  have c0 := hB.cell 0
  have c1 := hB.cell 1
  simp at c0 c1
  have cl := hB.lt
  by_cases h : a = 0
  · have E := Lib.hid (show orI a b = b from if_pos h)
    have h2 : (a == 0) = true := by simpa using h
    have h3 : (a != 0) = false := by simpa using h
    clear h
    by_cases k : b = 0
    · have EB := Lib.hid k
      have k2 : (b == 0) = true := by simpa using k
      have k3 : (b != 0) = false := by simpa using k
      clear k
      go_enter Try.func50, Try.ntmps50
      go_wp2_with fail
      refine wp_loop_rounds 3 ?_
      rw [rounds_succ]
      go_wp2_with fail
      rw [rounds_succ]
      go_wp2_with fail
      rw [rounds_succ]
      go_wp2_with fail
      go_ret
      exact ⟨ret_int (by rw [E.out, EB.out]), rfl⟩
    · have k2 : (b == 0) = false := by simpa using k
      have k3 : (b != 0) = true := by simpa using k
      clear k
      go_enter Try.func50, Try.ntmps50
      go_wp2_with fail
      refine wp_loop_rounds 3 ?_
      rw [rounds_succ]
      go_wp2_with fail
      rw [rounds_succ]
      go_wp2_with fail
      go_ret
      exact ⟨ret_int E.out.symm, rfl⟩
  · have E := Lib.hid (show orI a b = a from if_neg h)
    have h2 : (a == 0) = false := by simpa using h
    have h3 : (a != 0) = true := by simpa using h
    clear h
    go_enter Try.func50, Try.ntmps50
    go_wp2_with fail
    refine wp_loop_rounds 3 ?_
    rw [rounds_succ]
    go_wp2_with fail
    go_ret
    exact ⟨ret_int E.out.symm, rfl⟩
theorem cueIndex1_any (x : CueD) (B : Nat) (s : ByteArray) (w : World) (hB : Blk w B 9 #[.string s]) :
    Calls Try.prog 54 #[.agg #[.string x.f0, .int .i64 x.f1, .int .i64 x.f2, .string x.f3, .int .i64 x.f4, .int .i64 x.f5], .pointer (some ⟨B, 0, none⟩)] w fun e w' => e = .returned (.bool (x.f0.toList == s.toList)) ∧ Below w.heap.size w w' := by
  have c0 := hB.cell 0
  simp at c0
  have cl := hB.lt
  have cl2 : B < w.heap.size + 1 := by omega
  go_enter Try.func54, Try.ntmps54
  go_wp2_with fail
  go_ret
  refine ⟨rfl, ?_⟩
  repeat (first | with_reducible exact Below.refl _ _ | with_reducible assumption | with_reducible refine Below.setCell ?_ (by simp <;> omega) _ | with_reducible refine Below.alloc ?_ (by simp <;> omega) _ | with_reducible refine Below.drew ?_)
set_option maxHeartbeats 2000000 in
theorem indexCue_any (A : Option Addr) (n c : Nat) (l : Nat → CueD) (B : Nat) (s : ByteArray) (w : World) (hn : n ≤ 1048576) (hs : Sl w A (n * 6) (CueC l)) (hB : Blk w B 9 #[.string s]) :
    Calls Try.prog 53 #[.slice A n c, .func (.func 54) #[] #[.pointer (some ⟨B, 0, none⟩)]] w fun e w' => e = .returned (.int .i64 (findTo l s n)) ∧ Below w.heap.size w w' := by
  have hn3 : (n : Int) ≤ 1048576 := by omega
  go_enter Try.func53, Try.ntmps53
  go_wp2_with fail
  go_loopw [8, 5] (fun i _ wr => ∃ k : Nat, k ≤ n ∧ i = .int .i64 k ∧ Below w.heap.size w wr ∧ NoId l s k) (fun i _ _ => n - (intOf i).toNat)
  case atStart => exact ⟨0, Nat.zero_le _, rfl, Below.refl _ _, fun j hj => absurd hj (by omega)⟩
  case round =>
    obtain ⟨k, hk, rfl, hbl, hno⟩ := hrel
    have HNO := Lib.hid hno
    clear hno
    by_cases hlt : k < n
    · obtain ⟨b, off, rfl, hc⟩ := CueAt.of_sl hs (by omega)
      obtain ⟨hbr, d0, d1, d2, d3, d4, d5⟩ := (hc k hlt).below hbl
      have hB2 := hB.below hbl hB.lt
      clear hc
      cases q : (l k).f0.toList == s.toList
      · have HN2 := Lib.hid (show NoId l s (k + 1) from fun j hj => by
          by_cases e : j = k
          · subst e; exact q
          · exact HNO.out j (by omega))
        go_wp2_with (go_at_call 54; refine (cueIndex1_any (l k) B s _ hB2).mono ?_; rintro e w5 ⟨rfl, hb5⟩)
        have hbl5 := hbl.trans (hb5.mono hbl.size)
        go_roundw
        case rel => exact ⟨k + 1, by omega, by go_num, hbl5, HN2.out⟩
        case measure => simp [intOf]; omega
      · have E := Lib.hid (find_at HNO.out q n hlt)
        go_wp2_with (go_at_call 54; refine (cueIndex1_any (l k) B s _ hB2).mono ?_; rintro e w5 ⟨rfl, hb5⟩)
        have hbl5 := hbl.trans (hb5.mono hbl.size)
        go_ret
        exact ⟨ret_int E.out.symm, hbl5⟩
    · obtain rfl : k = n := by omega
      have E := Lib.hid (find_none HNO.out)
      go_wp2_with fail
      go_ret
      exact ⟨ret_int E.out.symm, hbl⟩
theorem cueIndex_any (A : Option Addr) (n c : Nat) (l : Nat → CueD) (s : ByteArray) (w : World) (hn : n ≤ 1048576) (hs : Sl w A (n * 6) (CueC l)) :
    Calls Try.prog 36 #[.slice A n c, .string s] w fun e w' => e = .returned (.int .i64 (findTo l s n)) ∧ Below w.heap.size w w' := by
  have hmf : ∀ (fn : Fn) (first cap : Array Value) (w : World), (Instr.makeFunc fn first cap).run Try.prog w = .ok (.func fn first cap) w := fun _ _ _ _ => rfl
  go_enter Try.func36, Try.ntmps36
  go_wp2_with fail
  generalize hV : World.alloc _ _ = w1
  have h1 : Below w.heap.size w w1 := by rw [← hV]; exact (Below.refl _ _).alloc (Nat.le_refl _) _
  have x1 : Blk w1 w.heap.size 9 #[.string s] := by rw [← hV]; exact Blk.new w _ _
  clear hV
  refine (indexCue_any _ n _ l _ s _ hn (hs.below h1) x1).mono ?_
  rintro e w2 ⟨rfl, hb2⟩
  go_wp2_with fail
  go_ret
  exact ⟨rfl, h1.trans (hb2.mono h1.size)⟩
set_option maxHeartbeats 2000000 in
theorem compareCues_any (x y : CueD) (w : World) :
    Calls Try.prog 35 #[.agg #[.string x.f0, .int .i64 x.f1, .int .i64 x.f2, .string x.f3, .int .i64 x.f4, .int .i64 x.f5], .agg #[.string y.f0, .int .i64 y.f1, .int .i64 y.f2, .string y.f3, .int .i64 y.f4, .int .i64 y.f5]] w fun e w' => e = .returned (.int .i64 (cmpC x y)) ∧ Below w.heap.size w w' := by
  go_enter Try.func35, Try.ntmps35
  go_wp2_with fail
  generalize hW : World.alloc (World.alloc w _) _ = w1
  have hb1 : Below w.heap.size w w1 := by rw [← hW]; repeat (first | with_reducible exact Below.refl _ _ | with_reducible assumption | with_reducible refine Below.setCell ?_ (by simp <;> omega) _ | with_reducible refine Below.alloc ?_ (by simp <;> omega) _ | with_reducible refine Below.drew ?_)
  have x0 : Blk w1 w.heap.size 26 #[.string x.f0, .int .i64 x.f1, .int .i64 x.f2, .string x.f3, .int .i64 x.f4, .int .i64 x.f5] := by rw [← hW]; exact (Blk.new w _ _).alloc _
  have x1 : Blk w1 (w.heap.size + 1) 26 #[.string y.f0, .int .i64 y.f1, .int .i64 y.f2, .string y.f3, .int .i64 y.f4, .int .i64 y.f5] := by
    have h := Blk.new (w.alloc (.cells #[.string x.f0, .int .i64 x.f1, .int .i64 x.f2, .string x.f3, .int .i64 x.f4, .int .i64 x.f5] 26)) 26 #[.string y.f0, .int .i64 y.f1, .int .i64 y.f2, .string y.f3, .int .i64 y.f4, .int .i64 y.f5]
    rw [hW] at h
    simpa using h
  clear hW
  have c0 := x0.cell 0
  have c1 := x0.cell 1
  have c2 := x0.cell 2
  have c3 := x0.cell 3
  have c4 := x0.cell 4
  have c5 := x0.cell 5
  simp at c0 c1 c2 c3 c4 c5
  have cl := x0.lt
  have d0 := x1.cell 0
  have d1 := x1.cell 1
  have d2 := x1.cell 2
  have d3 := x1.cell 3
  have d4 := x1.cell 4
  have d5 := x1.cell 5
  simp at d0 d1 d2 d3 d4 d5
  have dl := x1.lt
  refine wp_region_ext_tail 0 10 (by kernel_rfl) (by kernel_rfl) (fun d _ _ _ _ h => by cases d <;> exact h) ?_
  simp only [List.take_succ_cons, List.take_zero, List.drop_succ_cons, List.drop_zero]
  repeat (go_big_quiet_step ((first | (go_at_call 51; exact quiet_ext ((compareInt_eq _ _ _).mono fun _ _ h => ⟨h.1, h.2 ▸ Below.refl _ _⟩)) | (go_at_call 52; exact quiet_ext ((compareStr_eq _ _ _).mono fun _ _ h => ⟨h.1, h.2 ▸ Below.refl _ _⟩)))))
  refine wpQuiet_nil ?_
  intro e1
  have hb2 := hb1.trans (e1.below.mono hb1.size)
  go_wp2_with (go_at_call 50; refine (cmpOr_any _ _ _ _ (Blk.new _ _ _)).mono ?_; rintro e w5 ⟨rfl, rfl⟩)
  go_ret
  exact ⟨rfl, hb2.alloc hb2.size _⟩
end Go.Proofs.Ytikonccofaiceaa
