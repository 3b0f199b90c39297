/- The square root, rounded down, of any int64. No condition. -/
import Derived.Test.YthjllledhcfnhaaDoorRootMath
import Derived.Test.YthjllledhcfnhaaDoorRootFloat
import Derived.WalkLawsBesides
import Derived.Test.YthjllledhcfnhaaDoorRows
namespace Go.Proofs.YthjllledhcfnhaaDoor
open Go.RowKit Go.Lib Go.Ks

theorem iroot_mid {n r : Int} (h : 0 < r) : r * r ≤ n ↔ r ≤ iroot n := by
  constructor
  · intro h1
    exact le_iroot (by omega) h1
  · intro h1
    rcases Int.lt_or_le n 1 with hn | hn
    · rw [iroot_neg (by omega)] at h1; omega
    · exact Int.le_trans (sq_le_sq (by omega) h1) (iroot_spec (by omega)).1
set_option maxHeartbeats 1000000 in
theorem l01Root_eq (n : Int) (hn : n ≤ 9223372036854775807) (w : World) :
    Calls Tryd.prog 87 #[.int .i64 n] w fun e w' => e = .returned (.int .i64 (iroot n)) ∧ w = w' := by
  have top := iroot_top hn
  have bot := iroot_nonneg n
  go_enter Tryd.func87, Tryd.ntmps87
  go_wp2_with fail
  go_loop [3, 4] (fun a b => ∃ lo hi : Int, 0 ≤ lo ∧ lo ≤ iroot n ∧ iroot n ≤ hi ∧ hi ≤ 3037000499 ∧ a = .int .i64 lo ∧ b = .int .i64 hi) (fun a b => (intOf b - intOf a).toNat)
  case atStart => exact ⟨0, 3037000499, by omega, by omega, by omega, by omega, rfl, rfl⟩
  case round =>
    obtain ⟨lo, hi, h0, h1, h2, h3, rfl, rfl⟩ := hrel
    by_cases hlt : lo < hi
    · have m1 : 0 < (lo + hi + 1) / 2 ∧ (lo + hi + 1) / 2 ≤ hi := by omega
      have m2 := sq_bd (a := (lo + hi + 1) / 2) (by omega) (by omega)
      have m3 := iroot_mid (n := n) m1.1
      have M3 := Lib.hid m3
      clear m3
      obtain ⟨m11, m12⟩ := m1
      obtain ⟨m21, m22⟩ := m2
      by_cases hm : (lo + hi + 1) / 2 * ((lo + hi + 1) / 2) ≤ n
      · have hm2 := M3.out.1 hm
        go_wp2_with fail
        go_round
        case rel => exact ⟨_, hi, by omega, hm2, h2, h3, rfl, rfl⟩
        case measure => simp [intOf]; omega
      · have hm2 : iroot n < (lo + hi + 1) / 2 := by
          have := M3.out
          omega
        go_wp2_with fail
        go_round
        case rel => exact ⟨lo, _, h0, h1, by omega, by omega, rfl, rfl⟩
        case measure => simp [intOf]; omega
    · have E := Lib.hid (by omega : lo = iroot n)
      go_wp2_with fail
      go_ret
      exact ⟨ret_int E.out, rfl⟩

theorem Tryd.sqrtRun {x r : Nat} (h : FloatKind.f64.format.sqrt x = some r) (w : World) : (callFunc 160 #[.float .f64 x]).run Tryd.prog w = .ok (.value (.float .f64 r)) w := by
  rw [run_callFunc_extern Tryd.func160 (by kernel_rfl) (by kernel_rfl) (by kernel_rfl) (e := Extern.MathSqrt.sqrt) (by kernel_rfl)]
  change ((Sem.run Tryd.prog (match FloatKind.f64.format.sqrt x with
    | some r => pure (Value.float .f64 r)
    | none => do pure (Value.float .f64 (← choose (.nanBits .f64 x x)))) w).andThen _ : Result Next) = _
  rw [h]
  rfl
theorem sqrt_eq {x r : Nat} (h : FloatKind.f64.format.sqrt x = some r) (w : World) :
    Calls Tryd.prog 143 #[.float .f64 x] w fun e w' => e = .returned (.float .f64 r) ∧ w = w' := by
  have hq := fun w => Tryd.sqrtRun h w
  go_enter Tryd.func143, Tryd.ntmps143
  go_wp2_with fail
  go_ret
  exact ⟨rfl, rfl⟩
theorem toIntVal {x : Nat} {r : Int} (h : (FloatKind.f64.decode x).toInt .zero = some r) (h0 : 0 ≤ r) (h1 : r ≤ 2305843009213693952) : floatToIntVal .f64 x .i64 = some r := by
  unfold floatToIntVal
  rw [h]
  have hb : IntKind.i64.min ≤ r ∧ r ≤ IntKind.i64.max := by simp [IntKind.min, IntKind.max, IntKind.signed, IntKind.bits]; omega
  simp only [hb, and_self, if_true]
set_option maxRecDepth 100000 in
set_option maxHeartbeats 2000000 in
theorem rootOf_eq (n : Int) (hn : n ≤ 9223372036854775807) (w : World) :
    Calls Tryd.prog 110 #[.int .i64 n] w fun e w' => e = .returned (.int .i64 (iroot n)) ∧ w = w' := by
  by_cases h : n ≤ 0
  · have E := Lib.hid (iroot_neg h)
    go_enter Tryd.func110, Tryd.ntmps110
    go_wp2_with fail
    go_ret
    exact ⟨ret_int E.out.symm, rfl⟩
  · obtain ⟨bits, r, hsq, hti, hr0, hr1⟩ := sqrt_int n (by omega) hn
    have hcv := fun w => run_convert_float_int (P := Tryd.prog) (w := w) 162 2 .f64 .i64 bits r (by kernel_rfl) Tryd.underlying2 (toIntVal hti hr0 hr1)
    go_enter Tryd.func110, Tryd.ntmps110
    go_wp2_with fail
    refine (sqrt_eq hsq _).mono ?_
    rintro e w1 ⟨rfl, rfl⟩
    go_wp2_with fail
    clear hsq hti hcv
    all_goals
      go_loop [3] (fun s => ∃ q : Int, 0 ≤ q ∧ q ≤ 3037000499 ∧ s = .int .i64 q) (fun s => (intOf s).toNat)
      case atStart => exact ⟨_, by omega, by omega, rfl⟩
      case round =>
        obtain ⟨q, q0, q1, rfl⟩ := hrel
        obtain ⟨s0, s1⟩ := sq_bd q0 q1
        by_cases hlt : n < q * q
        · have q2 : 0 < q := by
            rcases Int.lt_or_le 0 q with h | h
            · exact h
            · obtain rfl : q = 0 := by omega
              omega
          go_wp2_with fail
          go_round
          case rel => exact ⟨_, by omega, by omega, rfl⟩
          case measure => simp [intOf]; omega
        · go_wp2_with fail
          go_loop [3] (fun s => ∃ q : Int, 0 ≤ q ∧ q ≤ 3037000499 ∧ q * q ≤ n ∧ s = .int .i64 q) (fun s => (3037000499 - intOf s).toNat)
          case atStart => exact ⟨_, q0, q1, by omega, rfl⟩
          case round =>
            obtain ⟨p, p0, p1, p2, rfl⟩ := hrel
            by_cases hp : p < 3037000499
            · obtain ⟨s2, s3⟩ := sq_bd (a := p + 1) (by omega) (by omega)
              by_cases hm : (p + 1) * (p + 1) ≤ n
              · go_wp2_with fail
                go_round
                case rel => exact ⟨_, by omega, by omega, hm, rfl⟩
                case measure => simp [intOf]; omega
              · have E := Lib.hid (iroot_eq p0 p2 (by omega))
                go_wp2_with fail
                go_ret
                exact ⟨ret_int E.out.symm, rfl⟩
            · obtain rfl : p = 3037000499 := by omega
              have E := Lib.hid (iroot_eq (n := n) (r := 3037000499) (by omega) p2 (by omega))
              go_wp2_with fail
              go_ret
              exact ⟨ret_int E.out.symm, rfl⟩
end Go.Proofs.YthjllledhcfnhaaDoor
