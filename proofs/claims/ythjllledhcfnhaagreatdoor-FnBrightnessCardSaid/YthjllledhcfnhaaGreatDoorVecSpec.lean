/- Vectors of the reference: what its functions answer. Conditions: the components are in range. -/
import Derived.Test.YthjllledhcfnhaaGreatDoorArcSpec
import Derived.Test.YthjllledhcfnhaaGreatDoorVecMath
import Derived.Test.YthjllledhcfnhaaGreatDoorTail
import Derived.Laws.StructEq
import Derived.Deep.DeepCutAuto
import Derived.Test.YthjllledhcfnhaaGreatDoorRootMath
import Derived.Test.YthjllledhcfnhaaGreatDoorRootFloat
import Derived.WalkLawsBesides
import Derived.Test.YthjllledhcfnhaaGreatDoorRows
namespace Go.Proofs.YthjllledhcfnhaaGreatDoor
open Go.RowKit Go.Lib Go.Ks

theorem iroot_mid {n r : Int} (h : 0 < r) : r * r ≤ n ↔ r ≤ iroot n := by
  constructor
  · intro h1
    exact le_iroot (by omega) h1
  · intro h1
    rcases Int.lt_or_le n 1 with hn | hn
    · rw [iroot_neg (by omega)] at h1; omega
    · exact Int.le_trans (sq_le_sq (by omega) h1) (iroot_spec (by omega)).1
set_option maxHeartbeats 1000000 in
theorem l01Root_eq (n : Int) (hn : n ≤ 9223372036854775807) (w : World) :
    Calls Tryz.prog 150 #[.int .i64 n] w fun e w' => e = .returned (.int .i64 (iroot n)) ∧ w = w' := by
  have top := iroot_top hn
  have bot := iroot_nonneg n
  go_enter Tryz.func150, Tryz.ntmps150
  go_wp2_with fail
  go_loop [3, 4] (fun a b => ∃ lo hi : Int, 0 ≤ lo ∧ lo ≤ iroot n ∧ iroot n ≤ hi ∧ hi ≤ 3037000499 ∧ a = .int .i64 lo ∧ b = .int .i64 hi) (fun a b => (intOf b - intOf a).toNat)
  case atStart => exact ⟨0, 3037000499, by omega, by omega, by omega, by omega, rfl, rfl⟩
  case round =>
    obtain ⟨lo, hi, h0, h1, h2, h3, rfl, rfl⟩ := hrel
    by_cases hlt : lo < hi
    · have m1 : 0 < (lo + hi + 1) / 2 ∧ (lo + hi + 1) / 2 ≤ hi := by omega
      have m2 := sq_bd (a := (lo + hi + 1) / 2) (by omega) (by omega)
      have m3 := iroot_mid (n := n) m1.1
      have M3 := Lib.hid m3
      clear m3
      obtain ⟨m11, m12⟩ := m1
      obtain ⟨m21, m22⟩ := m2
      by_cases hm : (lo + hi + 1) / 2 * ((lo + hi + 1) / 2) ≤ n
      · have hm2 := M3.out.1 hm
        go_wp2_with fail
        go_round
        case rel => exact ⟨_, hi, by omega, hm2, h2, h3, rfl, rfl⟩
        case measure => simp [intOf]; omega
      · have hm2 : iroot n < (lo + hi + 1) / 2 := by
          have := M3.out
          omega
        go_wp2_with fail
        go_round
        case rel => exact ⟨lo, _, h0, h1, by omega, by omega, rfl, rfl⟩
        case measure => simp [intOf]; omega
    · have E := Lib.hid (by omega : lo = iroot n)
      go_wp2_with fail
      go_ret
      exact ⟨ret_int E.out, rfl⟩

theorem Tryz.sqrtRun {x r : Nat} (h : FloatKind.f64.format.sqrt x = some r) (w : World) : (callFunc 119 #[.float .f64 x]).run Tryz.prog w = .ok (.value (.float .f64 r)) w := by
  rw [run_callFunc_extern Tryz.func119 (by kernel_rfl) (by kernel_rfl) (by kernel_rfl) (e := Extern.MathSqrt.sqrt) (by kernel_rfl)]
  change ((Sem.run Tryz.prog (match FloatKind.f64.format.sqrt x with
    | some r => pure (Value.float .f64 r)
    | none => do pure (Value.float .f64 (← choose (.nanBits .f64 x x)))) w).andThen _ : Result Next) = _
  rw [h]
  rfl
theorem sqrt_eq {x r : Nat} (h : FloatKind.f64.format.sqrt x = some r) (w : World) :
    Calls Tryz.prog 93 #[.float .f64 x] w fun e w' => e = .returned (.float .f64 r) ∧ w = w' := by
  have hq := fun w => Tryz.sqrtRun h w
  go_enter Tryz.func93, Tryz.ntmps93
  go_wp2_with fail
  go_ret
  exact ⟨rfl, rfl⟩
theorem toIntVal {x : Nat} {r : Int} (h : (FloatKind.f64.decode x).toInt .zero = some r) (h0 : 0 ≤ r) (h1 : r ≤ 2305843009213693952) : floatToIntVal .f64 x .i64 = some r := by
  unfold floatToIntVal
  rw [h]
  have hb : IntKind.i64.min ≤ r ∧ r ≤ IntKind.i64.max := by simp [IntKind.min, IntKind.max, IntKind.signed, IntKind.bits]; omega
  simp only [hb, and_self, if_true]
set_option maxRecDepth 100000 in
set_option maxHeartbeats 2000000 in
theorem rootOf_eq (n : Int) (hn : n ≤ 9223372036854775807) (w : World) :
    Calls Tryz.prog 61 #[.int .i64 n] w fun e w' => e = .returned (.int .i64 (iroot n)) ∧ w = w' := by
  by_cases h : n ≤ 0
  · have E := Lib.hid (iroot_neg h)
    go_enter Tryz.func61, Tryz.ntmps61
    go_wp2_with fail
    go_ret
    exact ⟨ret_int E.out.symm, rfl⟩
  · obtain ⟨bits, r, hsq, hti, hr0, hr1⟩ := sqrt_int n (by omega) hn
    have hcv := fun w => run_convert_float_int (P := Tryz.prog) (w := w) 131 2 .f64 .i64 bits r (by kernel_rfl) Tryz.underlying2 (toIntVal hti hr0 hr1)
    go_enter Tryz.func61, Tryz.ntmps61
    go_wp2_with fail
    refine (sqrt_eq hsq _).mono ?_
    rintro e w1 ⟨rfl, rfl⟩
    go_wp2_with fail
    clear hsq hti hcv
    all_goals
      go_loop [3] (fun s => ∃ q : Int, 0 ≤ q ∧ q ≤ 3037000499 ∧ s = .int .i64 q) (fun s => (intOf s).toNat)
      case atStart => exact ⟨_, by omega, by omega, rfl⟩
      case round =>
        obtain ⟨q, q0, q1, rfl⟩ := hrel
        obtain ⟨s0, s1⟩ := sq_bd q0 q1
        by_cases hlt : n < q * q
        · have q2 : 0 < q := by
            rcases Int.lt_or_le 0 q with h | h
            · exact h
            · obtain rfl : q = 0 := by omega
              omega
          go_wp2_with fail
          go_round
          case rel => exact ⟨_, by omega, by omega, rfl⟩
          case measure => simp [intOf]; omega
        · go_wp2_with fail
          go_loop [3] (fun s => ∃ q : Int, 0 ≤ q ∧ q ≤ 3037000499 ∧ q * q ≤ n ∧ s = .int .i64 q) (fun s => (3037000499 - intOf s).toNat)
          case atStart => exact ⟨_, q0, q1, by omega, rfl⟩
          case round =>
            obtain ⟨p, p0, p1, p2, rfl⟩ := hrel
            by_cases hp : p < 3037000499
            · obtain ⟨s2, s3⟩ := sq_bd (a := p + 1) (by omega) (by omega)
              by_cases hm : (p + 1) * (p + 1) ≤ n
              · go_wp2_with fail
                go_round
                case rel => exact ⟨_, by omega, by omega, hm, rfl⟩
                case measure => simp [intOf]; omega
              · have E := Lib.hid (iroot_eq p0 p2 (by omega))
                go_wp2_with fail
                go_ret
                exact ⟨ret_int E.out.symm, rfl⟩
            · obtain rfl : p = 3037000499 := by omega
              have E := Lib.hid (iroot_eq (n := n) (r := 3037000499) (by omega) p2 (by omega))
              go_wp2_with fail
              go_ret
              exact ⟨ret_int E.out.symm, rfl⟩
end Go.Proofs.YthjllledhcfnhaaGreatDoor
namespace Go.Proofs.YthjllledhcfnhaaGreatDoor
open Go.RowKit Go.Lib Go.Ks
/-- an int64 -/
def I64 (a : Int) : Prop := -9223372036854775808 ≤ a ∧ a ≤ 9223372036854775807

set_option maxRecDepth 100000 in
set_option maxHeartbeats 4000000 in
theorem l04Direction_any (lon lat : Int) (h1 : I64 lon) (h2 : I64 lat) (w : World) :
    Calls Tryz.prog 102 #[.int .i64 lon, .int .i64 lat] w fun e w' => e = .returned (.agg #[.int .i64 (dirV lon lat).f0, .int .i64 (dirV lon lat).f1, .int .i64 (dirV lon lat).f2]) ∧ Below w.heap.size w w' := by
  obtain ⟨a1, a2⟩ := cosi_bd lat
  obtain ⟨b1, b2⟩ := cosi_bd lon
  obtain ⟨c1, c2⟩ := sine_bd lon
  obtain ⟨m1, m2⟩ := unit_mul a1 a2 b1 b2
  obtain ⟨m3, m4⟩ := unit_mul a1 a2 c1 c2
  obtain ⟨i1, i2⟩ := h1
  obtain ⟨j1, j2⟩ := h2
  go_enter Tryz.func102, Tryz.ntmps102
  go_wp2_with fail
  generalize hW : World.alloc w _ = w1
  have HB : Below w.heap.size w w1 := by rw [← hW]; repeat (first | with_reducible exact Below.refl _ _ | with_reducible assumption | with_reducible refine Below.setCell ?_ (by simp <;> omega) _ | with_reducible refine Below.alloc ?_ (by simp <;> omega) _ | with_reducible refine Below.drew ?_)
  have x0 : Blk w1 w.heap.size 97 #[.int .i64 0, .int .i64 0, .int .i64 0] := by rw [← hW]; exact Blk.new w _ _
  clear hW
  go_wp2_with fail
  refine (l02Cosine_any _ j1 j2 _).mono ?_
  rintro e w2 ⟨rfl, hb2⟩
  replace HB := HB.trans (hb2.mono HB.size)
  replace x0 := x0.below hb2 x0.lt
  go_wp2_with fail
  refine (l02Cosine_any _ i1 i2 _).mono ?_
  rintro e w3 ⟨rfl, hb3⟩
  replace HB := HB.trans (hb3.mono HB.size)
  replace x0 := x0.below hb3 x0.lt
  go_wp2_with fail
  refine (l01Div_any _ _ (by omega) (by omega) (by omega) (by omega) _).mono ?_
  rintro e w4 ⟨rfl, hb4⟩
  replace HB := HB.trans (hb4.mono HB.size)
  replace x0 := x0.below hb4 x0.lt
  go_wp2_with fail
  refine (l02Sine_any _ i1 i2 _).mono ?_
  rintro e w5 ⟨rfl, hb5⟩
  replace HB := HB.trans (hb5.mono HB.size)
  replace x0 := x0.below hb5 x0.lt
  go_wp2_with fail
  refine (l01Div_any _ _ (by omega) (by omega) (by omega) (by omega) _).mono ?_
  rintro e w6 ⟨rfl, hb6⟩
  replace HB := HB.trans (hb6.mono HB.size)
  replace x0 := x0.below hb6 x0.lt
  go_wp2_with fail
  refine (l02Sine_any _ j1 j2 _).mono ?_
  rintro e w7 ⟨rfl, hb7⟩
  replace HB := HB.trans (hb7.mono HB.size)
  replace x0 := x0.below hb7 x0.lt
  have e0 := x0.cell 0
  have e1 := x0.cell 1
  have e2 := x0.cell 2
  simp at e0 e1 e2
  have el := x0.lt
  have eg0 := x0.frozen 0
  have eg1 := x0.frozen 1
  have eg2 := x0.frozen 2
  go_wp2_with fail
  refine bodyPost_ret (v := .agg #[.int .i64 (divr (cosi lat * cosi lon) 1000000), .int .i64 (divr (cosi lat * sine lon) 1000000), .int .i64 (sine lat)]) (by simp [results, Tryz.results102, go_sem, e0, e1, e2]) rfl ⟨rfl, ?_⟩
  repeat (first | with_reducible exact Below.refl _ _ | with_reducible assumption | with_reducible refine Below.setCell ?_ (by simp <;> omega) _ | with_reducible refine Below.alloc ?_ (by simp <;> omega) _ | with_reducible refine Below.drew ?_)
set_option maxHeartbeats 1000000 in
theorem l04Length_any (v : VectorD) (h : Vb 8000000 v) (w : World) :
    Calls Tryz.prog 125 #[.agg #[.int .i64 v.f0, .int .i64 v.f1, .int .i64 v.f2]] w fun e w' => e = .returned (.int .i64 (lenV v)) ∧ Below w.heap.size w w' := by
  obtain ⟨⟨a1, a2⟩, ⟨b1, b2⟩, c1, c2⟩ := sum_sq_bd h
  have hb : Below w.heap.size w (w.alloc (.cells #[.int .i64 v.f0, .int .i64 v.f1, .int .i64 v.f2] 97)) := (Below.refl _ _).alloc (Nat.le_refl _) _
  go_enter Tryz.func125, Tryz.ntmps125
  go_wp2_with fail
  refine (l01Root_eq _ (by omega) _).mono ?_
  rintro e w1 ⟨rfl, rfl⟩
  go_wp2_with fail
  go_ret
  exact ⟨rfl, hb⟩
theorem dot_parts {a b : VectorD} (ha : Vb 2000000 a) (hb : Vb 2000000 b) : (-4000000000000 ≤ a.f0 * b.f0 ∧ a.f0 * b.f0 ≤ 4000000000000) ∧ (-4000000000000 ≤ a.f1 * b.f1 ∧ a.f1 * b.f1 ≤ 4000000000000) ∧ (-4000000000000 ≤ a.f2 * b.f2 ∧ a.f2 * b.f2 ≤ 4000000000000) := ⟨two_mul_bd ha.1 hb.1, two_mul_bd ha.2.1 hb.2.1, two_mul_bd ha.2.2 hb.2.2⟩
set_option maxHeartbeats 1000000 in
theorem l04Dot_any (a b : VectorD) (ha : Vb 2000000 a) (hb : Vb 2000000 b) (w : World) :
    Calls Tryz.prog 127 #[.agg #[.int .i64 a.f0, .int .i64 a.f1, .int .i64 a.f2], .agg #[.int .i64 b.f0, .int .i64 b.f1, .int .i64 b.f2]] w fun e w' => e = .returned (.int .i64 (dotV a b)) ∧ Below w.heap.size w w' := by
  obtain ⟨⟨a1, a2⟩, ⟨b1, b2⟩, c1, c2⟩ := dot_parts ha hb
  have hb : Below w.heap.size w ((w.alloc (.cells #[.int .i64 a.f0, .int .i64 a.f1, .int .i64 a.f2] 97)).alloc (.cells #[.int .i64 b.f0, .int .i64 b.f1, .int .i64 b.f2] 97)) := by
    repeat (first | with_reducible exact Below.refl _ _ | with_reducible assumption | with_reducible refine Below.setCell ?_ (by simp <;> omega) _ | with_reducible refine Below.alloc ?_ (by simp <;> omega) _ | with_reducible refine Below.drew ?_)
  go_enter Tryz.func127, Tryz.ntmps127
  go_wp2_with fail
  refine (l01Div_any _ _ (by omega) (by omega) (by omega) (by omega) _).mono ?_
  rintro e w1 ⟨rfl, hb1⟩
  go_wp2_with fail
  go_ret
  exact ⟨rfl, hb.trans (hb1.mono hb.size)⟩
theorem cross_parts {a b : VectorD} (ha : Vb 2000000 a) (hb : Vb 2000000 b) :
    ((-4000000000000 ≤ a.f1 * b.f2 ∧ a.f1 * b.f2 ≤ 4000000000000) ∧ (-4000000000000 ≤ a.f2 * b.f1 ∧ a.f2 * b.f1 ≤ 4000000000000)) ∧ ((-4000000000000 ≤ a.f2 * b.f0 ∧ a.f2 * b.f0 ≤ 4000000000000) ∧ (-4000000000000 ≤ a.f0 * b.f2 ∧ a.f0 * b.f2 ≤ 4000000000000)) ∧ ((-4000000000000 ≤ a.f0 * b.f1 ∧ a.f0 * b.f1 ≤ 4000000000000) ∧ (-4000000000000 ≤ a.f1 * b.f0 ∧ a.f1 * b.f0 ≤ 4000000000000)) :=
  ⟨⟨two_mul_bd ha.2.1 hb.2.2, two_mul_bd ha.2.2 hb.2.1⟩, ⟨two_mul_bd ha.2.2 hb.1, two_mul_bd ha.1 hb.2.2⟩, two_mul_bd ha.1 hb.2.1, two_mul_bd ha.2.1 hb.1⟩
set_option maxRecDepth 100000 in
set_option maxHeartbeats 4000000 in
theorem l04Cross_any (a b : VectorD) (ha : Vb 2000000 a) (hb : Vb 2000000 b) (w : World) :
    Calls Tryz.prog 126 #[.agg #[.int .i64 a.f0, .int .i64 a.f1, .int .i64 a.f2], .agg #[.int .i64 b.f0, .int .i64 b.f1, .int .i64 b.f2]] w fun e w' => e = .returned (.agg #[.int .i64 (crossV a b).f0, .int .i64 (crossV a b).f1, .int .i64 (crossV a b).f2]) ∧ Below w.heap.size w w' := by
  obtain ⟨⟨⟨a1, a2⟩, a3, a4⟩, ⟨⟨b1, b2⟩, b3, b4⟩, ⟨c1, c2⟩, c3, c4⟩ := cross_parts ha hb
  go_enter Tryz.func126, Tryz.ntmps126
  go_wp2_with fail
  generalize hW : World.alloc (World.alloc (World.alloc w _) _) _ = w1
  have HB : Below w.heap.size w w1 := by rw [← hW]; repeat (first | with_reducible exact Below.refl _ _ | with_reducible assumption | with_reducible refine Below.setCell ?_ (by simp <;> omega) _ | with_reducible refine Below.alloc ?_ (by simp <;> omega) _ | with_reducible refine Below.drew ?_)
  have x0 : Blk w1 w.heap.size 97 #[.int .i64 a.f0, .int .i64 a.f1, .int .i64 a.f2] := by rw [← hW]; exact ((Blk.new w _ _).alloc _).alloc _
  have x1 : Blk w1 (w.heap.size + 1) 97 #[.int .i64 b.f0, .int .i64 b.f1, .int .i64 b.f2] := by
    have h := (Blk.new (w.alloc (.cells #[.int .i64 a.f0, .int .i64 a.f1, .int .i64 a.f2] 97)) 97 #[.int .i64 b.f0, .int .i64 b.f1, .int .i64 b.f2]).alloc (.cells #[.int .i64 0, .int .i64 0, .int .i64 0] 97)
    rw [hW] at h
    simpa using h
  have x2 : Blk w1 (w.heap.size + 2) 97 #[.int .i64 0, .int .i64 0, .int .i64 0] := by
    have h := Blk.new ((w.alloc (.cells #[.int .i64 a.f0, .int .i64 a.f1, .int .i64 a.f2] 97)).alloc (.cells #[.int .i64 b.f0, .int .i64 b.f1, .int .i64 b.f2] 97)) 97 #[.int .i64 0, .int .i64 0, .int .i64 0]
    rw [hW] at h
    simpa using h
  clear hW
  have d0 := x0.cell 0
  have d1 := x0.cell 1
  have d2 := x0.cell 2
  simp at d0 d1 d2
  have dl := x0.lt
  have f0 := x1.cell 0
  have f1 := x1.cell 1
  have f2 := x1.cell 2
  simp at f0 f1 f2
  have fl := x1.lt
  refine wp_region_ext_tail 0 36 (by kernel_rfl) (by kernel_rfl) (fun d _ _ _ _ h => by cases d <;> exact h) ?_
  simp only [List.take_succ_cons, List.take_zero, List.drop_succ_cons, List.drop_zero]
  repeat (go_big_quiet_step ((go_at_call 123; exact quiet_ext (l01Div_any _ _ (by omega) (by omega) (by omega) (by omega) _))))
  refine wpQuiet_nil ?_
  intro e1
  have hb2 := e1.below
  replace HB := HB.trans (hb2.mono HB.size)
  replace x2 := x2.below hb2 x2.lt
  have e0 := x2.cell 0
  have e1 := x2.cell 1
  have e2 := x2.cell 2
  simp at e0 e1 e2
  have el := x2.lt
  have eg0 := x2.frozen 0
  have eg1 := x2.frozen 1
  have eg2 := x2.frozen 2
  go_wp2_with fail
  refine bodyPost_ret (v := .agg #[.int .i64 (crossV a b).f0, .int .i64 (crossV a b).f1, .int .i64 (crossV a b).f2]) (by simp [results, Tryz.results126, go_sem, e0, e1, e2]; exact ⟨rfl, rfl, rfl⟩) rfl ⟨rfl, ?_⟩
  repeat (first | with_reducible exact Below.refl _ _ | with_reducible assumption | with_reducible refine Below.setCell ?_ (by simp <;> omega) _ | with_reducible refine Below.alloc ?_ (by simp <;> omega) _ | with_reducible refine Below.drew ?_)
theorem Tryz.vecStood : Tryz.prog.stoodInHeld 97 = false := by kernel_rfl
theorem Tryz.vecGuard : Tryz.prog.eqGuardType Tryz.prog.depth 97 = false := by kernel_rfl
def zeroB (v : VectorD) : Bool := decide (isZ v)
set_option maxHeartbeats 1000000 in
/-- a test against the vector 0 -/
theorem vecEq (v : VectorD) (w : World) : (Op.equalIn 10000 97 (.agg #[.int .i64 v.f0, .int .i64 v.f1, .int .i64 v.f2]) (.agg #[.int .i64 0, .int .i64 0, .int .i64 0])).run Tryz.prog w = .ok (zeroB v) w := by
  have hst := Tryz.vecStood
  by_cases h0 : v.f0 = 0 <;> by_cases h1 : v.f1 = 0 <;> by_cases h2 : v.f2 = 0 <;> simp [go_sem, hst, h0, h1, h2, zeroB, isZ]
/-- whether there is an angle -/
def okV (a b : VectorD) : Bool := !(zeroB a || zeroB b || (decide (lenV (crossV a b) = 0) && decide (dotV a b = 0)))
theorem ret_away {x x' : Int} {b b' : Bool} (h : x = x') (h' : b = b') : Ending.returned (.tuple #[.int .i64 x, .bool b]) = .returned (.tuple #[.int .i64 x', .bool b']) := by rw [h, h']
set_option maxRecDepth 100000 in
set_option maxHeartbeats 4000000 in
theorem l04Away_any (a b : VectorD) (ha : Vb 2000000 a) (hb : Vb 2000000 b) (w : World) :
    Calls Tryz.prog 104 #[.agg #[.int .i64 a.f0, .int .i64 a.f1, .int .i64 a.f2], .agg #[.int .i64 b.f0, .int .i64 b.f1, .int .i64 b.f2]] w fun e w' => e = .returned (.tuple #[.int .i64 (sepV a b), .bool (okV a b)]) ∧ Below w.heap.size w w' := by
  have hgu := Tryz.vecGuard
  have hza := fun W => vecEq a W
  have hzb := fun W => vecEq b W
  have hc := crossV_bd ha hb
  obtain ⟨l0, l1⟩ := lenV_bd hc
  obtain ⟨d0, d1⟩ := dotV_bd ha hb
  have SZ := Lib.hid (sepV_z (a := a) (b := b))
  have SN := Lib.hid (sepV_nz (a := a) (b := b))
  go_enter Tryz.func104, Tryz.ntmps104
  go_wp2_with fail
  generalize hW : World.alloc (World.alloc w _) _ = w1
  have HB : Below w.heap.size w w1 := by rw [← hW]; repeat (first | with_reducible exact Below.refl _ _ | with_reducible assumption | with_reducible refine Below.setCell ?_ (by simp <;> omega) _ | with_reducible refine Below.alloc ?_ (by simp <;> omega) _ | with_reducible refine Below.drew ?_)
  have x0 : Blk w1 w.heap.size 97 #[.int .i64 a.f0, .int .i64 a.f1, .int .i64 a.f2] := by rw [← hW]; exact (Blk.new w _ _).alloc _
  have x1 : Blk w1 (w.heap.size + 1) 97 #[.int .i64 b.f0, .int .i64 b.f1, .int .i64 b.f2] := by
    have h := Blk.new (w.alloc (.cells #[.int .i64 a.f0, .int .i64 a.f1, .int .i64 a.f2] 97)) 97 #[.int .i64 b.f0, .int .i64 b.f1, .int .i64 b.f2]
    rw [hW] at h
    simpa using h
  clear hW
  refine (l04Cross_any a b ha hb _).mono ?_
  rintro e w2 ⟨rfl, hb2⟩
  replace HB := HB.trans (hb2.mono HB.size)
  replace x0 := x0.below hb2 x0.lt
  replace x1 := x1.below hb2 x1.lt
  go_wp2_with fail
  refine (l04Length_any (crossV a b) hc _).mono ?_
  rintro e w3 ⟨rfl, hb3⟩
  replace HB := HB.trans (hb3.mono HB.size)
  replace x0 := x0.below hb3 x0.lt
  replace x1 := x1.below hb3 x1.lt
  have d0 := x0.cell 0
  have d1 := x0.cell 1
  have d2 := x0.cell 2
  simp at d0 d1 d2
  have dl := x0.lt
  have f0 := x1.cell 0
  have f1 := x1.cell 1
  have f2 := x1.cell 2
  simp at f0 f1 f2
  have fl := x1.lt
  go_wp2_with fail
  refine (l04Dot_any a b ha hb _).mono ?_
  rintro e w4 ⟨rfl, hb4⟩
  replace HB := HB.trans (hb4.mono HB.size)
  replace x0 := x0.below hb4 x0.lt
  replace x1 := x1.below hb4 x1.lt
  clear d0 d1 d2 f0 f1 f2 dl fl
  have d0 := x0.cell 0
  have d1 := x0.cell 1
  have d2 := x0.cell 2
  simp at d0 d1 d2
  have dl := x0.lt
  have f0 := x1.cell 0
  have f1 := x1.cell 1
  have f2 := x1.cell 2
  simp at f0 f1 f2
  have fl := x1.lt
  cases za : zeroB a
  case true =>
    have E := Lib.hid (SZ.out (.inl (of_decide_eq_true za)))
    have O := Lib.hid (by simp [okV, za] : okV a b = false)
    go_wp2_with fail
    go_ret2
    exact ⟨ret_away E.out.symm O.out.symm, HB⟩
  cases zb : zeroB b
  case true =>
    have E := Lib.hid (SZ.out (.inr (of_decide_eq_true zb)))
    have O := Lib.hid (by simp [okV, zb] : okV a b = false)
    go_wp2_with fail
    go_ret2
    exact ⟨ret_away E.out.symm O.out.symm, HB⟩
  have hE := SN.out (fun h => h.elim (of_decide_eq_false za) (of_decide_eq_false zb))
  by_cases k0 : lenV (crossV a b) = 0
  · by_cases k1 : dotV a b = 0
    · have E := Lib.hid (by rw [hE, k0, k1]; exact arct_zero : sepV a b = 0)
      have O := Lib.hid (by simp [okV, k0, k1] : okV a b = false)
      clear hE
      go_wp2_with fail
      go_ret2
      exact ⟨ret_away E.out.symm O.out.symm, HB⟩
    · have E := Lib.hid (by rw [hE, k0] : sepV a b = arct 0 (dotV a b))
      have O := Lib.hid (by simp [okV, za, zb, k1] : okV a b = true)
      clear hE
      go_wp2_with fail
      refine (l02Arc_any _ _ (by omega) (by omega) _).mono ?_
      rintro e w5 ⟨rfl, hb5⟩
      go_wp2_with fail
      go_ret2
      exact ⟨ret_away E.out.symm O.out.symm, HB.trans (hb5.mono HB.size)⟩
  · have E := Lib.hid hE
    have O := Lib.hid (by simp [okV, za, zb, k0] : okV a b = true)
    clear hE
    go_wp2_with fail
    refine (l02Arc_any _ _ (by omega) (by omega) _).mono ?_
    rintro e w5 ⟨rfl, hb5⟩
    go_wp2_with fail
    go_ret2
    exact ⟨ret_away E.out.symm O.out.symm, HB.trans (hb5.mono HB.size)⟩
end Go.Proofs.YthjllledhcfnhaaGreatDoor
