/- How many projectors reach a spot. Conditions: valid projectors; the slices read as told; the variable sines holds its table. -/
import Derived.Test.YthjllledhcfnhaaDoorRaw
import Derived.Test.YthjllledhcfnhaaDoorSpots
import Derived.Test.YthjllledhcfnhaaDoorAllocs
namespace Go.Ks
/-- the first k projectors that reach a direction -/
def cntTo (l : Nat → ProjectorD) (az alt : Int) : Nat → Int
  | 0 => 0
  | k + 1 => cntTo l az alt k + if 0 < rawP (l k) az alt then 1 else 0
theorem cnt_yes {l : Nat → ProjectorD} {az alt : Int} {k : Nat} (h : 0 < rawP (l k) az alt) : cntTo l az alt (k + 1) = cntTo l az alt k + 1 := by rw [cntTo, if_pos h]
theorem cnt_no {l : Nat → ProjectorD} {az alt : Int} {k : Nat} (h : ¬ 0 < rawP (l k) az alt) : cntTo l az alt (k + 1) = cntTo l az alt k := by rw [cntTo, if_neg h, Int.add_zero]
theorem cnt_bd (l : Nat → ProjectorD) (az alt : Int) : ∀ k, 0 ≤ cntTo l az alt k ∧ cntTo l az alt k ≤ (k : Int)
  | 0 => ⟨Int.le_refl _, Int.le_refl _⟩
  | k + 1 => by
    have ih := cnt_bd l az alt k
    unfold cntTo
    split <;> omega
end Go.Ks
namespace Go.Proofs.YthjllledhcfnhaaDoor
open Go.RowKit Go.Lib Go.Ks
def vecG (u : Value) : Prop := ∃ x y z : Int, u = .agg #[.int .i64 x, .int .i64 y, .int .i64 z]
def vecC : Value → Array Value | .agg c => c | _ => #[]
theorem allocVec : AllocRun Tryd.prog 58 #[.int .i64 0, .int .i64 0, .int .i64 0] := fun w => by
  simp [go_sem, Instr.alloc]
theorem storeVec : StoreRun Tryd.prog 58 #[.int .i64 0, .int .i64 0, .int .i64 0] vecG vecC := by
  rintro w B u ⟨x, y, z, rfl⟩ hb
  have h0 := hb.cell 0
  have h1 := hb.cell 1
  have h2 := hb.cell 2
  have g0 := hb.frozen 0
  have g1 := hb.frozen 1
  have g2 := hb.frozen 2
  have hl := hb.lt
  simp at h0 h1 h2
  refine ⟨((w.setCell ⟨B, 0, none⟩ (.int .i64 x)).setCell ⟨B, 1, none⟩ (.int .i64 y)).setCell ⟨B, 2, none⟩ (.int .i64 z), ?_, by simp [World.setCell], fun base hbase => ?_, ((hb.set_ 0 _).set_ 1 _).set_ 2 _, fun B' c hne hB => ((hB.far (p := ⟨B, 0, none⟩) hne _).far (p := ⟨B, 1, none⟩) hne _).far (p := ⟨B, 2, none⟩) hne _⟩
  · simp [go_sem, Instr.storeAt, h0, h1, h2, g0, g1, g2]
  · exact ((Below.setCell (Below.refl _ _) hbase _).setCell hbase _).setCell hbase _
/-- a pair of numbers lies there -/
def PairAt (w : World) (g : Nat) (x y : Int) : Prop := g < w.heap.size ∧ w.cell? ⟨g, 0, none⟩ = some (.int .i64 x) ∧ w.cell? ⟨g, 1, none⟩ = some (.int .i64 y)
theorem PairAt.below {w w' : World} {g : Nat} {x y : Int} (h : PairAt w g x y) (hb : Below w.heap.size w w') : PairAt w' g x y := ⟨Nat.lt_of_lt_of_le h.1 hb.size, (hb.cell (p := ⟨g, 0, none⟩) h.1).trans h.2.1, (hb.cell (p := ⟨g, 1, none⟩) h.1).trans h.2.2⟩
set_option maxRecDepth 100000 in
set_option maxHeartbeats 4000000 in
theorem l10Count_any (A : Option Addr) (n c : Nat) (l : Nat → ProjectorD) (g : Nat) (x y : Int) (w : World) (hn : n ≤ 6) (hs : Sl w A (n * 5) (ProjectorC l)) (hp : ∀ k, k < n → projB (l k) = true) (hpr : PairAt w g x y) (hx : I64 x) (hy : I64 y) :
    Calls Tryd.prog 58 #[.slice A n c, .slice (some ⟨g, 0, none⟩) 2 2] w fun e w' => e = .returned (.int .i64 (cntTo l x y n)) ∧ Below w.heap.size w w' := by
  have hn6 : (n : Int) ≤ 6 := by omega
  obtain ⟨pg, p0, p1⟩ := hpr
  have HX := Lib.hid hx
  have HY := Lib.hid hy
  clear hx hy
  go_enter Tryd.func58, Tryd.ntmps58
  go_upto_region 2 with fail
  go_cut [6] (fun s wr => ∃ B : Nat, s = .pointer (some ⟨B, 0, none⟩) ∧ Blk wr B 58 #[.int .i64 (dirV x y).f0, .int .i64 (dirV x y).f1, .int .i64 (dirV x y).f2] ∧ Below w.heap.size w wr)
  case first =>
    go_region_with (go_at_call 60; refine (l04Direction_any _ _ HX.out HY.out _).mono ?_; rintro e v ⟨rfl, H⟩; have E0 : Below w.heap.size w v := below_then (by repeat (first | with_reducible exact Below.refl _ _ | with_reducible assumption | with_reducible refine Below.setCell ?_ (by first | omega | (simp <;> omega)) _ | with_reducible refine Below.alloc ?_ (by first | omega | (simp <;> omega)) _ | with_reducible refine Below.drew ?_)) H; have ES := E0.size; (first | (with_reducible have zx := made_step H) | (with_reducible have zx := made_step' H) | skip); (try have zf0 := zx.cell 0); (try have zf1 := zx.cell 1); (try have zf2 := zx.cell 2); (try have zg0 := zx.frozen 0); (try have zg1 := zx.frozen 1); (try have zg2 := zx.frozen 2); (try have zl := zx.lt))
    all_goals (try go_wp2_with fail)
    all_goals
      go_meet
      refine ⟨_, rfl, ?b, ?e⟩
      case b => (first | with_reducible exact Blk.new _ _ _ | exact ((zx.set_ 0 _).set_ 1 _).set_ 2 _)
      case e => repeat (first | with_reducible exact Below.refl _ _ | with_reducible assumption | with_reducible refine Below.setCell ?_ (by first | omega | (simp <;> omega)) _ | with_reducible refine Below.alloc ?_ (by first | omega | (simp <;> omega)) _ | with_reducible refine Below.drew ?_)
  obtain ⟨B, rfl, z1, hb1⟩ := hcut
  obtain ⟨w1, rfl⟩ : ∃ q : World, q = wc := ⟨_, rfl⟩
  clear p0 p1 pg
  go_wp2_with fail
  go_loopw [5, 7] (fun s i wr => ∃ k : Nat, k ≤ n ∧ i = .int .i64 k ∧ s = .int .i64 (cntTo l x y k) ∧ Below w1.heap.size w1 wr) (fun _ i _ => n - (intOf i).toNat)
  case atStart => exact ⟨0, Nat.zero_le _, rfl, rfl, Below.refl _ _⟩
  case round =>
    obtain ⟨k, hk, rfl, rfl, hbl⟩ := hrel
    obtain ⟨cb0, cb1⟩ := cnt_bd l x y k
    by_cases hlt : k < n
    · obtain ⟨b, off, rfl, hc⟩ := ProjectorAt.of_sl hs (by omega)
      have PK := Lib.hid (((hc k hlt).below hb1).below hbl)
      have QK := Lib.hid (hp k hlt)
      have z2 := z1.below hbl z1.lt
      have d0 := z2.cell 0
      have d1 := z2.cell 1
      have d2 := z2.cell 2
      simp at d0 d1 d2
      have dl := z2.lt
      clear hc
      have HY1 := Lib.hid (cnt_yes (l := l) (az := x) (alt := y) (k := k))
      have HN1 := Lib.hid (cnt_no (l := l) (az := x) (alt := y) (k := k))
      by_cases q : 0 < rawP (l k) x y
      · have E := Lib.hid (HY1.out (by omega))
        have q' := decide_eq_true q
        go_wp2_with fail
        refine wp_region_ext (by kernel_rfl) (by kernel_rfl) ?_
        repeat (go_big_quiet_step ((first | (go_at_call 59; exact quiet_ext (l10Raw_any _ _ (l k) x y _ (PK.out.below (ExtW.below _)) QK.out)))))
        refine wpQuiet_nil ?_
        intro e1
        have hb3 := hbl.trans (e1.below.mono hbl.size)
        go_wp2_with fail
        go_roundw
        case rel => exact ⟨k + 1, by omega, by go_num, ret_num E.out.symm, hb3⟩
        case measure => simp [intOf]; omega
      · have E := Lib.hid (HN1.out (by omega))
        have q' := decide_eq_false q
        go_wp2_with fail
        refine wp_region_ext (by kernel_rfl) (by kernel_rfl) ?_
        repeat (go_big_quiet_step ((first | (go_at_call 59; exact quiet_ext (l10Raw_any _ _ (l k) x y _ (PK.out.below (ExtW.below _)) QK.out)))))
        refine wpQuiet_nil ?_
        intro e1
        have hb3 := hbl.trans (e1.below.mono hbl.size)
        go_wp2_with fail
        go_roundw
        case rel => exact ⟨k + 1, by omega, by go_num, ret_num E.out.symm, hb3⟩
        case measure => simp [intOf]; omega
    · have hkn : k = n := by omega
      subst hkn
      have hb3 := hb1.trans (hbl.mono hb1.size)
      go_wp2_with fail
      go_ret
      exact ⟨rfl, hb3⟩
set_option maxRecDepth 100000 in
set_option maxHeartbeats 4000000 in
theorem reaching_any (A : Option Addr) (n c : Nat) (l : Nat → ProjectorD) (g : Nat) (x y : Int) (w : World) (hn : n ≤ 6) (hs : Sl w A (n * 5) (ProjectorC l)) (hp : ∀ k, k < n → projB (l k) = true) (hpr : PairAt w g x y) (hx : I64 x) (hy : I64 y) (hT : Tab w) :
    Calls Tryd.prog 67 #[.slice A n c, .slice (some ⟨g, 0, none⟩) 2 2] w fun e w' => e = .returned (.int .i64 (cntTo l x y n)) ∧ Below w.heap.size w w' := by
  have hn6 : (n : Int) ≤ 6 := by omega
  have HX := Lib.hid hx
  have HY := Lib.hid hy
  have HT := Lib.hid hT
  have HPR := Lib.hid hpr
  clear hx hy hT hpr
  go_enter Tryd.func67, Tryd.ntmps67
  go_wp2_with fail
  go_loopw [5, 10] (fun s i wr => ∃ k : Nat, k ≤ n ∧ i = .int .i64 k ∧ s = .int .i64 (cntTo l x y k) ∧ Below w.heap.size w wr) (fun _ i _ => n - (intOf i).toNat)
  case atStart => exact ⟨0, Nat.zero_le _, rfl, rfl, Below.refl _ _⟩
  case round =>
    obtain ⟨k, hk, rfl, rfl, hbl⟩ := hrel
    obtain ⟨cb0, cb1⟩ := cnt_bd l x y k
    by_cases hlt : k < n
    · obtain ⟨b, off, rfl, hc⟩ := ProjectorAt.of_sl hs (by omega)
      obtain ⟨hbr, d0, d1, d2, d3, d4⟩ := (hc k hlt).below hbl
      obtain ⟨pg, p0, p1⟩ := HPR.out.below hbl
      have hbr2 : b < wr.heap.size + 1 := by omega
      have pg2 : g < wr.heap.size + 1 := by omega
      have hal : Below w.heap.size w (wr.alloc (.cells #[.string (l k).f0, .int .i64 (l k).f1, .int .i64 (l k).f2, .int .i64 (l k).f3, .int .i64 (l k).f4] 43)) := hbl.alloc hbl.size _
      have hsz : w.heap.size ≤ (wr.alloc (.cells #[.string (l k).f0, .int .i64 (l k).f1, .int .i64 (l k).f2, .int .i64 (l k).f3, .int .i64 (l k).f4] 43)).heap.size := hal.size
      have QK := Lib.hid (hp k hlt)
      have TK := Lib.hid (HT.out.below hal)
      clear hc
      have HY1 := Lib.hid (cnt_yes (l := l) (az := x) (alt := y) (k := k))
      have HN1 := Lib.hid (cnt_no (l := l) (az := x) (alt := y) (k := k))
      by_cases q : 0 < rawP (l k) x y
      · have E := Lib.hid (HY1.out (by omega))
        have q' := decide_eq_true q
        go_wp2_with fail
        refine wp_region_ext (by kernel_rfl) (by kernel_rfl) ?_
        repeat (go_big_quiet_step ((first | (go_at_call 79; exact quiet_ext (rawWeight_any (l k) x y _ QK.out HX.out HY.out (TK.out.below (ExtW.below _)))))))
        refine wpQuiet_nil ?_
        intro e1
        have hb3 := hal.trans (e1.below.mono hsz)
        go_wp2_with fail
        go_roundw
        case rel => exact ⟨k + 1, by omega, by go_num, ret_num E.out.symm, hb3⟩
        case measure => simp [intOf]; omega
      · have E := Lib.hid (HN1.out (by omega))
        have q' := decide_eq_false q
        go_wp2_with fail
        refine wp_region_ext (by kernel_rfl) (by kernel_rfl) ?_
        repeat (go_big_quiet_step ((first | (go_at_call 79; exact quiet_ext (rawWeight_any (l k) x y _ QK.out HX.out HY.out (TK.out.below (ExtW.below _)))))))
        refine wpQuiet_nil ?_
        intro e1
        have hb3 := hal.trans (e1.below.mono hsz)
        go_wp2_with fail
        go_roundw
        case rel => exact ⟨k + 1, by omega, by go_num, ret_num E.out.symm, hb3⟩
        case measure => simp [intOf]; omega
    · have hkn : k = n := by omega
      subst hkn
      go_wp2_with fail
      go_ret
      exact ⟨rfl, hbl⟩
end Go.Proofs.YthjllledhcfnhaaDoor
