/- FnWarps returns true at every input. Conditions: those that the arguments meet. -/
import Derived.Test.YtddcbieomklhnaaR8Mesh
import Derived.Test.YtddcbieomklhnaaWarpsLaw
import Derived.Test.YtddcbieomklhnaaWarpPoint
namespace Go.Proofs.Ytddcbieomklhnaa
open Go.RowKit Go.Lib Go.Ks
theorem spot_ok {C R : Int} {n : Nat} {L : Nat → SpotD} (ok : MeshOk C R n L) : ∀ k, k < n → SpotOk (L k) := fun k hk => by
  obtain ⟨⟨a, b⟩, c, d⟩ := plane_pl (ok.2.2.2 k hk)
  exact ⟨⟨by omega, by omega⟩, by omega, by omega⟩
theorem mesh_81 {C R : Int} {n : Nat} {L : Nat → SpotD} (ok : MeshOk C R n L) : 4 ≤ n ∧ n ≤ 81 := by
  obtain ⟨⟨C1, C2⟩, ⟨R1, R2⟩, hn, _⟩ := ok
  have h := mul_bd (a := C) (b := R) (m := 9) (n := 9) (by omega) (by omega) (by omega) (by omega) (by omega)
  have h2 : 2 * 2 ≤ C * R := Int.mul_le_mul (by omega) (by omega) (by omega) (by omega)
  omega
theorem warp_low {C R : Int} {n : Nat} {L : Nat → SpotD} (ok : MeshOk C R n L) : warpX C R L 0 0 = (L 0).f0 ∧ warpY C R L 0 0 = (L 0).f1 := by
  obtain ⟨⟨C1, C2⟩, ⟨R1, R2⟩, _, _⟩ := ok
  have hI : ∀ c : Int, 2 ≤ c → warpI c 0 = 0 := fun c hc => by unfold warpI; simp only [Int.zero_mul, Int.zero_ediv]; omega
  have hF : ∀ c : Int, 2 ≤ c → warpF c 0 = 0 := fun c hc => by unfold warpF; rw [hI c hc]; omega
  unfold warpX warpY warpK
  rw [hI C C1, hI R R1, hF C C1, hF R R1, mix_low, mix_low]
  simp
theorem warp_high {C R : Int} {n : Nat} {L : Nat → SpotD} (ok : MeshOk C R n L) : warpX C R L 1000000 1000000 = (L (n - 1)).f0 ∧ warpY C R L 1000000 1000000 = (L (n - 1)).f1 := by
  obtain ⟨⟨C1, C2⟩, ⟨R1, R2⟩, hn, _⟩ := ok
  have hI : ∀ c : Int, 2 ≤ c → warpI c 1000000 = c - 2 := fun c hc => by
    unfold warpI
    rw [Int.mul_ediv_cancel_left _ (by decide)]
    omega
  have hF : ∀ c : Int, 2 ≤ c → warpF c 1000000 = 1000000 := fun c hc => by unfold warpF; rw [hI c hc]; omega
  have hk : (warpK C R 1000000 1000000).toNat + C.toNat + 1 = n - 1 := by
    unfold warpK
    rw [hI C C1, hI R R1]
    have e : (R - 2) * C = C * R - 2 * C := by grind
    rw [e, ← hn]
    have h2 : C * 2 ≤ C * R := Int.mul_le_mul_of_nonneg_left R1 (by omega)
    omega
  unfold warpX warpY
  rw [hk, hF C C1, hF R R1, mix_high, mix_high]
  exact ⟨rfl, rfl⟩
theorem iroot_mono {a b : Int} (h0 : 0 ≤ a) (h : a ≤ b) : iroot a ≤ iroot b := by
  obtain ⟨h1, _⟩ := iroot_spec h0
  obtain ⟨_, h4⟩ := iroot_spec (Int.le_trans h0 h)
  have n1 := iroot_nonneg a
  have n2 := iroot_nonneg b
  refine Int.not_lt.1 (fun hlt => ?_)
  have := sq_le_sq (a := iroot b + 1) (b := iroot a) (by omega) (by omega)
  omega
theorem iroot_72 {a : Int} (h0 : 0 ≤ a) (h : a ≤ 72) : iroot a ≤ 8 := by
  obtain ⟨h1, _⟩ := iroot_spec h0
  have n1 := iroot_nonneg a
  refine Int.not_lt.1 (fun hlt => ?_)
  have := sq_le_sq (a := 9) (b := iroot a) (by omega) (by omega)
  omega
theorem gapS_symm (a b c d : Int) : gapS a b c d = gapS c d a b := by unfold gapS; grind
theorem warp_at {C R : Int} {A : Option Addr} {n c : Nat} {L : Nat → SpotD} (u v : Int) (w : World) (ok : MeshOk C R n L) (hs : Sl w A (n * 2) (SpotC L)) (hu : Un u) (hv : Un v) :
    Calls Try.prog 27 #[.agg #[.int .i64 C, .int .i64 R, .slice A n c], .int .i64 u, .int .i64 v] w fun e w' => e = .returned (.tuple #[.agg #[.int .i64 (warpX C R L u v), .int .i64 (warpY C R L u v)], .int .i64 0]) ∧ Below w.heap.size w w' := by
  obtain ⟨e1, e2, e3⟩ := mWarp_ok ok ⟨hu, hv⟩
  obtain ⟨u1, u2⟩ := hu
  obtain ⟨v1, v2⟩ := hv
  have h := implWarpPoint_any C R A n c L u v w (by have := mesh_81 ok; omega) hs (spot_ok ok) (by omega) (by omega)
  rw [e1, e2, e3] at h
  exact h
theorem unwarp_at {C R : Int} {A : Option Addr} {n cc : Nat} {L : Nat → SpotD} (p q : Int) (w : World) (ok : MeshOk C R n L) (hs : Sl w A (n * 2) (SpotC L)) (hp : Pl p q) :
    Calls Try.prog 46 #[.agg #[.int .i64 C, .int .i64 R, .slice A n cc], .agg #[.int .i64 p, .int .i64 q]] w fun e w' => e = .returned (.tuple #[.int .i64 (searchS (gapF C R L p q)).u, .int .i64 (searchS (gapF C R L p q)).v, .int .i64 (iroot (searchS (gapF C R L p q)).d), .int .i64 0]) ∧ Below w.heap.size w w' := by
  have hpl : plane p q = true := by obtain ⟨⟨a, b⟩, c, d⟩ := hp; exact plane_iff.2 ⟨⟨a, b⟩, c, d⟩
  obtain ⟨e1, e2, e3, e4⟩ := mUw_ok (meshOk_yes ok) hpl
  obtain ⟨⟨a, b⟩, c, d⟩ := hp
  have h := implUnwarpPoint_any C R A n cc L p q w (by have := mesh_81 ok; omega) hs (spot_ok ok) (by omega) (by omega)
  rw [e1, e2, e3, e4] at h
  exact h
theorem below_alloc {w w' : World} {o : Obj} (h : w.alloc o = w') : Below w.heap.size w w' := by rw [← h]; exact (Below.refl _ _).alloc (Nat.le_refl _) _
theorem blk_alloc {w w' : World} {cs : Array Value} {t : TypeId} (h : w.alloc (.cells cs t) = w') : Blk w' w.heap.size t cs := by rw [← h]; exact Blk.new w t cs
theorem Try.spotStood : Try.prog.stoodInHeld 39 = false := by kernel_rfl
theorem spotEq (x y : Int) (w : World) : (Op.equalIn 10000 39 (.agg #[.int .i64 x, .int .i64 y]) (.agg #[.int .i64 x, .int .i64 y])).run Try.prog w = .ok true w := by
  have hst := Try.spotStood
  simp [go_sem, hst]
theorem warp_is {C R : Int} {A : Option Addr} {n c : Nat} {L : Nat → SpotD} {X Y : Int} (u v : Int) (w : World) (ok : MeshOk C R n L) (hs : Sl w A (n * 2) (SpotC L)) (hu : Un u) (hv : Un v) (hX : warpX C R L u v = X) (hY : warpY C R L u v = Y) :
    Calls Try.prog 27 #[.agg #[.int .i64 C, .int .i64 R, .slice A n c], .int .i64 u, .int .i64 v] w fun e w' => e = .returned (.tuple #[.agg #[.int .i64 X, .int .i64 Y], .int .i64 0]) ∧ Below w.heap.size w w' := by
  have h := warp_at (c := c) u v w ok hs hu hv
  rw [hX, hY] at h
  exact h
-- THE WALK
set_option maxRecDepth 100000 in
set_option maxHeartbeats 8000000 in
theorem fnWarps_any (A0 : Option Addr) (n0 c0 : Nat) (l0 : Nat → Int) (A1 : Option Addr) (n1 c1 : Nat) (l1 : Nat → Int) (w : World) (b0 : n0 ≤ 9223372036854775807) (s0 : Sl w A0 (n0 * 1) (ByteC l0)) (g0 : ∀ k, k < n0 → 0 ≤ l0 k ∧ l0 k ≤ 255) (b1 : n1 ≤ 9223372036854775807) (s1 : Sl w A1 (n1 * 1) (ByteC l1)) (g1 : ∀ k, k < n1 → 0 ≤ l1 k ∧ l1 k ≤ 255) :
    Calls Try.prog 14 #[.slice A0 n0 c0, .slice A1 n1 c1] w fun e w' => e = .returned (.bool true) ∧ Below w.heap.size w w' := by
  go_enter Try.func14, Try.ntmps14
  go_wp2_with fail
  refine (r8Long_any A0 n0 c0 A1 n1 c1 _ b0 b1).mono ?_
  rintro e w1 ⟨rfl, HB⟩
  by_cases q : 1048576 < n0 ∨ 1048576 < n1
  · rw [decide_eq_true q]
    go_wp2_with fail
    go_ret
    exact ⟨rfl, HB⟩
  · rw [decide_eq_false q]
    have m0 : n0 ≤ 1048576 := by omega
    have m1 : n1 ≤ 1048576 := by omega
    have S0 := Lib.hid s0
    have S1 := Lib.hid s1
    have G0 := Lib.hid g0
    have G1 := Lib.hid g1
    clear q s0 s1 g0 g1
    go_wp2_with fail
    refine (r8Mesh_any A0 n0 c0 l0 _ m0 (S0.out.below HB) G0.out).mono ?_
    rintro e w2 ⟨⟨C, R, Am, N, cm, L, rfl, ok, own⟩, hb2⟩
    replace HB := HB.trans (hb2.mono HB.size)
    obtain ⟨N4, N81⟩ := mesh_81 ok
    obtain ⟨M, rfl⟩ : ∃ M, N = M + 1 := ⟨N - 1, by omega⟩
    obtain ⟨Bs, ms, h0, rfl, hBs, kS, hms, hh0⟩ := Own.some_blk own (by omega)
    have OK := Lib.hid ok
    have HH := Lib.hid hh0
    clear ok own hh0
    go_wp2_with fail
    generalize hV : World.alloc _ _ = w3
    have hb3 := below_alloc hV
    have xM := blk_alloc hV
    clear hV
    replace HB := HB.trans (hb3.mono HB.size)
    have cM0 := xM.cell 0
    have cM1 := xM.cell 1
    have cM2 := xM.cell 2
    simp at cM0 cM1 cM2
    have cMl := xM.lt
    have kS3 := kS.below hb3 kS.lt
    have SM := Lib.hid ((Own.blk (base := 0) (size := 2) kS3 (Nat.zero_le _) hms HH.out : Own w3 0 39 2 (some ⟨Bs, 0, none⟩) (M + 1) (SpotC L)).sl)
    have HM := Below.refl w3.heap.size w3
    clear kS hb2 hb3 hBs
    go_wp2_with fail
    refine (r8Wide_any A1 n1 c1 l1 0 58823 _ m1 (by omega) (by decide) (S1.out.below HB) G1.out).mono ?_
    rintro e w4 ⟨⟨u, rfl, u1, u2⟩, hb4⟩
    replace HB := HB.trans (hb4.mono HB.size)
    clear cM0 cM1 cM2 cMl
    replace xM := xM.below hb4 xM.lt
    have cM0 := xM.cell 0
    have cM1 := xM.cell 1
    have cM2 := xM.cell 2
    simp at cM0 cM1 cM2
    have cMl := xM.lt
    replace HM := HM.trans (hb4.mono HM.size)
    go_wp2_with fail
    refine (r8Wide_any A1 n1 c1 l1 2 58823 _ m1 (by omega) (by decide) (S1.out.below HB) G1.out).mono ?_
    rintro e w5 ⟨⟨v, rfl, v1, v2⟩, hb5⟩
    replace HB := HB.trans (hb5.mono HB.size)
    clear cM0 cM1 cM2 cMl
    replace xM := xM.below hb5 xM.lt
    have cM0 := xM.cell 0
    have cM1 := xM.cell 1
    have cM2 := xM.cell 2
    simp at cM0 cM1 cM2
    have cMl := xM.lt
    replace HM := HM.trans (hb5.mono HM.size)
    have U := Lib.hid (show Un (17 * u) from ⟨by omega, by omega⟩)
    have V := Lib.hid (show Un (17 * v) from ⟨by omega, by omega⟩)
    have UN0 := Lib.hid (show Un 0 from ⟨by decide, by decide⟩)
    have UN1 := Lib.hid (show Un 1000000 from ⟨by decide, by decide⟩)
    go_wp2_with fail
    refine (warp_is 0 0 _ OK.out (SM.out.below HM) UN0.out UN0.out (warp_low OK.out).1 (warp_low OK.out).2).mono ?_
    rintro e w6 ⟨rfl, hb6⟩
    replace HB := HB.trans (hb6.mono HB.size)
    clear cM0 cM1 cM2 cMl
    replace xM := xM.below hb6 xM.lt
    have cM0 := xM.cell 0
    have cM1 := xM.cell 1
    have cM2 := xM.cell 2
    simp at cM0 cM1 cM2
    have cMl := xM.lt
    replace HM := HM.trans (hb6.mono HM.size)
    go_wp2_with fail
    generalize hV : World.alloc _ _ = w7
    have hb7 := below_alloc hV
    have xL := blk_alloc hV
    clear hV
    replace HB := HB.trans (hb7.mono HB.size)
    clear cM0 cM1 cM2 cMl
    replace xM := xM.below hb7 xM.lt
    have cM0 := xM.cell 0
    have cM1 := xM.cell 1
    have cM2 := xM.cell 2
    simp at cM0 cM1 cM2
    have cMl := xM.lt
    replace HM := HM.trans (hb7.mono HM.size)
    have cL0 := xL.cell 0
    have cL1 := xL.cell 1
    simp at cL0 cL1
    have cLl := xL.lt
    go_wp2_with fail
    refine (warp_is (X := (L M).f0) (Y := (L M).f1) 1000000 1000000 _ OK.out (SM.out.below HM) UN1.out UN1.out (warp_high OK.out).1 (warp_high OK.out).2).mono ?_
    rintro e w8 ⟨rfl, hb8⟩
    replace HB := HB.trans (hb8.mono HB.size)
    clear cM0 cM1 cM2 cMl
    replace xM := xM.below hb8 xM.lt
    have cM0 := xM.cell 0
    have cM1 := xM.cell 1
    have cM2 := xM.cell 2
    simp at cM0 cM1 cM2
    have cMl := xM.lt
    clear cL0 cL1 cLl
    replace xL := xL.below hb8 xL.lt
    have cL0 := xL.cell 0
    have cL1 := xL.cell 1
    simp at cL0 cL1
    have cLl := xL.lt
    replace HM := HM.trans (hb8.mono HM.size)
    go_wp2_with fail
    generalize hV : World.alloc _ _ = w9
    have hb9 := below_alloc hV
    have xH := blk_alloc hV
    clear hV
    replace HB := HB.trans (hb9.mono HB.size)
    clear cM0 cM1 cM2 cMl
    replace xM := xM.below hb9 xM.lt
    have cM0 := xM.cell 0
    have cM1 := xM.cell 1
    have cM2 := xM.cell 2
    simp at cM0 cM1 cM2
    have cMl := xM.lt
    clear cL0 cL1 cLl
    replace xL := xL.below hb9 xL.lt
    have cL0 := xL.cell 0
    have cL1 := xL.cell 1
    simp at cL0 cL1
    have cLl := xL.lt
    replace HM := HM.trans (hb9.mono HM.size)
    have cH0 := xH.cell 0
    have cH1 := xH.cell 1
    simp at cH0 cH1
    have cHl := xH.lt
    obtain ⟨px, hpx⟩ : ∃ X, warpX C R L (17 * u) (17 * v) = X := ⟨_, rfl⟩
    obtain ⟨py, hpy⟩ : ∃ X, warpY C R L (17 * u) (17 * v) = X := ⟨_, rfl⟩
    have PX := Lib.hid hpx
    have PY := Lib.hid hpy
    have pl : Pl px py := by rw [← hpx, ← hpy]; exact warp_pl OK.out U.out V.out
    have PL := Lib.hid pl
    obtain ⟨⟨p1, p2⟩, p3, p4⟩ := pl
    clear hpx hpy
    go_wp2_with fail
    refine (warp_is (17 * u) (17 * v) _ OK.out (SM.out.below HM) U.out V.out PX.out PY.out).mono ?_
    rintro e w10 ⟨rfl, hb10⟩
    replace HB := HB.trans (hb10.mono HB.size)
    clear cM0 cM1 cM2 cMl
    replace xM := xM.below hb10 xM.lt
    have cM0 := xM.cell 0
    have cM1 := xM.cell 1
    have cM2 := xM.cell 2
    simp at cM0 cM1 cM2
    have cMl := xM.lt
    clear cL0 cL1 cLl
    replace xL := xL.below hb10 xL.lt
    have cL0 := xL.cell 0
    have cL1 := xL.cell 1
    simp at cL0 cL1
    have cLl := xL.lt
    clear cH0 cH1 cHl
    replace xH := xH.below hb10 xH.lt
    have cH0 := xH.cell 0
    have cH1 := xH.cell 1
    simp at cH0 cH1
    have cHl := xH.lt
    replace HM := HM.trans (hb10.mono HM.size)
    go_wp2_with fail
    generalize hV : World.alloc _ _ = w11
    have hb11 := below_alloc hV
    have xP := blk_alloc hV
    clear hV
    replace HB := HB.trans (hb11.mono HB.size)
    clear cM0 cM1 cM2 cMl
    replace xM := xM.below hb11 xM.lt
    have cM0 := xM.cell 0
    have cM1 := xM.cell 1
    have cM2 := xM.cell 2
    simp at cM0 cM1 cM2
    have cMl := xM.lt
    clear cL0 cL1 cLl
    replace xL := xL.below hb11 xL.lt
    have cL0 := xL.cell 0
    have cL1 := xL.cell 1
    simp at cL0 cL1
    have cLl := xL.lt
    clear cH0 cH1 cHl
    replace xH := xH.below hb11 xH.lt
    have cH0 := xH.cell 0
    have cH1 := xH.cell 1
    simp at cH0 cH1
    have cHl := xH.lt
    replace HM := HM.trans (hb11.mono HM.size)
    have cP0 := xP.cell 0
    have cP1 := xP.cell 1
    simp at cP0 cP1
    have cPl := xP.lt
    have kc := kS3.below HM kS3.lt
    have bS := kc.lt
    have cS0 : w11.cell? ⟨Bs, 0, none⟩ = some (.int .i64 (L 0).f0) := by rw [kc.cell, arr_get _ _ _ (by omega), HH.out _ (by omega)]; exact congrArg some (SpotC0 L 0)
    have cS1 : w11.cell? ⟨Bs, 1, none⟩ = some (.int .i64 (L 0).f1) := by rw [kc.cell, arr_get _ _ _ (by omega), HH.out _ (by omega)]; exact congrArg some (SpotC1 L 0)
    have cS2 : w11.cell? ⟨Bs, M * 2, none⟩ = some (.int .i64 (L M).f0) := by rw [kc.cell, arr_get _ _ _ (by omega), HH.out _ (by omega), SpotC0]
    have cS3 : w11.cell? ⟨Bs, M * 2 + 1, none⟩ = some (.int .i64 (L M).f1) := by rw [kc.cell, arr_get _ _ _ (by omega), HH.out _ (by omega), SpotC1]
    have hq := spotEq
    have np1 : ¬ px < -2000000 := by omega
    have np2 : ¬ 2000000 < px := by omega
    have np3 : ¬ py < -2000000 := by omega
    have np4 : ¬ 2000000 < py := by omega
    have nd1 : decide (px < -2000000) = false := decide_eq_false np1
    have nd2 : decide (2000000 < px) = false := decide_eq_false np2
    have nd3 : decide (py < -2000000) = false := decide_eq_false np3
    have nd4 : decide (2000000 < py) = false := decide_eq_false np4
    have M81 : (M : Int) ≤ 80 := by omega
    have M0 : (0 : Int) ≤ (M : Int) := by omega
    have hl1 : IntKind.i64.wrap (((M + 1 : Nat) : Int) - 1) = (M : Int) := by rw [IntKind.wrap_i64]; omega
    have hl2 : IntKind.i64.wrap ((M : Int) + 1 - 1) = (M : Int) := by rw [IntKind.wrap_i64]; omega
    have hl3 : (M : Int) < ((M + 1 : Nat) : Int) := by omega
    have hl4 : (M : Int) < (M : Int) + 1 := by omega
    have hl5 : ((M + 1 : Nat) : Int) - 1 = (M : Int) := by omega
    go_wp2_with fail
    refine wp_region_ext (by kernel_rfl) (by kernel_rfl) ?_
    repeat (go_big_quiet_step (fail))
    refine wpQuiet_nil ?_
    intro e12
    have hb12 := e12.below
    generalize e12.val = w12 at *
    replace HB := HB.trans (hb12.mono HB.size)
    clear cM0 cM1 cM2 cMl
    replace xM := xM.below hb12 xM.lt
    have cM0 := xM.cell 0
    have cM1 := xM.cell 1
    have cM2 := xM.cell 2
    simp at cM0 cM1 cM2
    have cMl := xM.lt
    clear cL0 cL1 cLl
    replace xL := xL.below hb12 xL.lt
    have cL0 := xL.cell 0
    have cL1 := xL.cell 1
    simp at cL0 cL1
    have cLl := xL.lt
    clear cH0 cH1 cHl
    replace xH := xH.below hb12 xH.lt
    have cH0 := xH.cell 0
    have cH1 := xH.cell 1
    simp at cH0 cH1
    have cHl := xH.lt
    clear cP0 cP1 cPl
    replace xP := xP.below hb12 xP.lt
    have cP0 := xP.cell 0
    have cP1 := xP.cell 1
    simp at cP0 cP1
    have cPl := xP.lt
    replace HM := HM.trans (hb12.mono HM.size)
    clear e12 kc bS cS0 cS1 cS2 cS3 np1 np2 np3 np4 nd1 nd2 nd3 nd4 hl1 hl2 hl3 hl4 hl5 hq
    clear cL0 cL1 cLl
    clear xL
    clear cH0 cH1 cHl
    clear xH
    go_wp2_with fail
    have F := Lib.hid (gapF_ok OK.out PL.out)
    obtain ⟨⟨q1, q2⟩, q3⟩ := search_at F.out
    have le : ∀ i j : Nat, i < 17 → j < 17 → 0 ≤ (searchS (gapF C R L px py)).d ∧ (searchS (gapF C R L px py)).d ≤ gapF C R L px py (62500 * (i : Int)) (62500 * (j : Int)) := fun i j hi hj => search_le F.out hi hj
    have UW := unwarp_at (cc := cm) px py w12 OK.out (SM.out.below HM) PL.out
    obtain ⟨S, hS⟩ : ∃ S, searchS (gapF C R L px py) = S := ⟨_, rfl⟩
    rw [hS] at q1 q2 q3 le UW
    have LE := Lib.hid le
    have Q1 := Lib.hid (show Un S.u from q1)
    have Q2 := Lib.hid (show Un S.v from q2)
    have Q3 := Lib.hid q3
    clear hS le q1 q2 q3
    go_wp2_with fail
    refine (UW).mono ?_
    rintro e w13 ⟨rfl, hb13⟩
    replace HB := HB.trans (hb13.mono HB.size)
    clear cM0 cM1 cM2 cMl
    replace xM := xM.below hb13 xM.lt
    have cM0 := xM.cell 0
    have cM1 := xM.cell 1
    have cM2 := xM.cell 2
    simp at cM0 cM1 cM2
    have cMl := xM.lt
    clear cP0 cP1 cPl
    replace xP := xP.below hb13 xP.lt
    have cP0 := xP.cell 0
    have cP1 := xP.cell 1
    simp at cP0 cP1
    have cPl := xP.lt
    replace HM := HM.trans (hb13.mono HM.size)
    clear UW
    obtain ⟨qx, hqx⟩ : ∃ X, warpX C R L S.u S.v = X := ⟨_, rfl⟩
    obtain ⟨qy, hqy⟩ : ∃ X, warpY C R L S.u S.v = X := ⟨_, rfl⟩
    have QL := Lib.hid (show Pl qx qy by rw [← hqx, ← hqy]; exact warp_pl OK.out Q1.out Q2.out)
    have hf : gapS px py qx qy = S.d := by rw [gapS_symm, Q3.out, ← hqx, ← hqy]; rfl
    have QX := Lib.hid hqx
    have QY := Lib.hid hqy
    have HF := Lib.hid hf
    clear hqx hqy hf
    go_wp2_with fail
    refine (warp_is S.u S.v _ OK.out (SM.out.below HM) Q1.out Q2.out QX.out QY.out).mono ?_
    rintro e w14 ⟨rfl, hb14⟩
    replace HB := HB.trans (hb14.mono HB.size)
    clear cM0 cM1 cM2 cMl
    replace xM := xM.below hb14 xM.lt
    have cM0 := xM.cell 0
    have cM1 := xM.cell 1
    have cM2 := xM.cell 2
    simp at cM0 cM1 cM2
    have cMl := xM.lt
    clear cP0 cP1 cPl
    replace xP := xP.below hb14 xP.lt
    have cP0 := xP.cell 0
    have cP1 := xP.cell 1
    simp at cP0 cP1
    have cPl := xP.lt
    replace HM := HM.trans (hb14.mono HM.size)
    go_wp2_with fail
    generalize hV : World.alloc _ _ = w15
    have hb15 := below_alloc hV
    have xQ := blk_alloc hV
    clear hV
    replace HB := HB.trans (hb15.mono HB.size)
    clear cM0 cM1 cM2 cMl
    replace xM := xM.below hb15 xM.lt
    have cM0 := xM.cell 0
    have cM1 := xM.cell 1
    have cM2 := xM.cell 2
    simp at cM0 cM1 cM2
    have cMl := xM.lt
    clear cP0 cP1 cPl
    replace xP := xP.below hb15 xP.lt
    have cP0 := xP.cell 0
    have cP1 := xP.cell 1
    simp at cP0 cP1
    have cPl := xP.lt
    replace HM := HM.trans (hb15.mono HM.size)
    have cQ0 := xQ.cell 0
    have cQ1 := xQ.cell 1
    simp at cQ0 cQ1
    have cQl := xQ.lt
    have RF := r8Far_any px py qx qy w15 PL.out QL.out
    rw [HF.out] at RF
    go_wp2_with fail
    refine (RF).mono ?_
    rintro e w16 ⟨rfl, hb16⟩
    replace HB := HB.trans (hb16.mono HB.size)
    clear cM0 cM1 cM2 cMl
    replace xM := xM.below hb16 xM.lt
    have cM0 := xM.cell 0
    have cM1 := xM.cell 1
    have cM2 := xM.cell 2
    simp at cM0 cM1 cM2
    have cMl := xM.lt
    clear cP0 cP1 cPl
    replace xP := xP.below hb16 xP.lt
    have cP0 := xP.cell 0
    have cP1 := xP.cell 1
    simp at cP0 cP1
    have cPl := xP.lt
    clear cQ0 cQ1 cQl
    replace xQ := xQ.below hb16 xQ.lt
    have cQ0 := xQ.cell 0
    have cQ1 := xQ.cell 1
    simp at cQ0 cQ1
    have cQl := xQ.lt
    replace HM := HM.trans (hb16.mono HM.size)
    clear RF
    clear cQ0 cQ1 cQl
    clear xQ
    go_wp2_with fail
    refine (r8At_any A1 n1 c1 l1 4 17 _ m1 (by omega) (by decide) (S1.out.below HB) G1.out).mono ?_
    rintro e w17 ⟨⟨i, rfl, i1, i2⟩, hb17⟩
    replace HB := HB.trans (hb17.mono HB.size)
    clear cM0 cM1 cM2 cMl
    replace xM := xM.below hb17 xM.lt
    have cM0 := xM.cell 0
    have cM1 := xM.cell 1
    have cM2 := xM.cell 2
    simp at cM0 cM1 cM2
    have cMl := xM.lt
    clear cP0 cP1 cPl
    replace xP := xP.below hb17 xP.lt
    have cP0 := xP.cell 0
    have cP1 := xP.cell 1
    simp at cP0 cP1
    have cPl := xP.lt
    replace HM := HM.trans (hb17.mono HM.size)
    obtain ⟨a, rfl⟩ := Int.eq_ofNat_of_zero_le i1
    clear i1
    go_wp2_with fail
    refine (r8At_any A1 n1 c1 l1 5 17 _ m1 (by omega) (by decide) (S1.out.below HB) G1.out).mono ?_
    rintro e w18 ⟨⟨k, rfl, k1, k2⟩, hb18⟩
    replace HB := HB.trans (hb18.mono HB.size)
    clear cM0 cM1 cM2 cMl
    replace xM := xM.below hb18 xM.lt
    have cM0 := xM.cell 0
    have cM1 := xM.cell 1
    have cM2 := xM.cell 2
    simp at cM0 cM1 cM2
    have cMl := xM.lt
    clear cP0 cP1 cPl
    replace xP := xP.below hb18 xP.lt
    have cP0 := xP.cell 0
    have cP1 := xP.cell 1
    simp at cP0 cP1
    have cPl := xP.lt
    replace HM := HM.trans (hb18.mono HM.size)
    obtain ⟨b, rfl⟩ := Int.eq_ofNat_of_zero_le k1
    clear k1
    have UA := Lib.hid (show Un (62500 * (a : Int)) from ⟨by omega, by omega⟩)
    have UB := Lib.hid (show Un (62500 * (b : Int)) from ⟨by omega, by omega⟩)
    obtain ⟨rx, hrx⟩ : ∃ X, warpX C R L (62500 * (a : Int)) (62500 * (b : Int)) = X := ⟨_, rfl⟩
    obtain ⟨ry, hry⟩ : ∃ X, warpY C R L (62500 * (a : Int)) (62500 * (b : Int)) = X := ⟨_, rfl⟩
    have RL := Lib.hid (show Pl rx ry by rw [← hrx, ← hry]; exact warp_pl OK.out UA.out UB.out)
    have nlt : ¬ iroot (gapS px py rx ry) < iroot S.d := by
      obtain ⟨d0, d1⟩ := LE.out a b (by omega) (by omega)
      have e : gapF C R L px py (62500 * (a : Int)) (62500 * (b : Int)) = gapS px py rx ry := by rw [gapS_symm, ← hrx, ← hry]; rfl
      rw [e] at d1
      exact Int.not_lt.2 (iroot_mono d0 d1)
    have RX := Lib.hid hrx
    have RY := Lib.hid hry
    clear hrx hry
    go_wp2_with fail
    refine (warp_is (62500 * (a : Int)) (62500 * (b : Int)) _ OK.out (SM.out.below HM) UA.out UB.out RX.out RY.out).mono ?_
    rintro e w19 ⟨rfl, hb19⟩
    replace HB := HB.trans (hb19.mono HB.size)
    clear cM0 cM1 cM2 cMl
    replace xM := xM.below hb19 xM.lt
    have cM0 := xM.cell 0
    have cM1 := xM.cell 1
    have cM2 := xM.cell 2
    simp at cM0 cM1 cM2
    have cMl := xM.lt
    clear cP0 cP1 cPl
    replace xP := xP.below hb19 xP.lt
    have cP0 := xP.cell 0
    have cP1 := xP.cell 1
    simp at cP0 cP1
    have cPl := xP.lt
    replace HM := HM.trans (hb19.mono HM.size)
    go_wp2_with fail
    generalize hV : World.alloc _ _ = w20
    have hb20 := below_alloc hV
    have xR := blk_alloc hV
    clear hV
    replace HB := HB.trans (hb20.mono HB.size)
    clear cM0 cM1 cM2 cMl
    replace xM := xM.below hb20 xM.lt
    have cM0 := xM.cell 0
    have cM1 := xM.cell 1
    have cM2 := xM.cell 2
    simp at cM0 cM1 cM2
    have cMl := xM.lt
    clear cP0 cP1 cPl
    replace xP := xP.below hb20 xP.lt
    have cP0 := xP.cell 0
    have cP1 := xP.cell 1
    simp at cP0 cP1
    have cPl := xP.lt
    replace HM := HM.trans (hb20.mono HM.size)
    have cR0 := xR.cell 0
    have cR1 := xR.cell 1
    simp at cR0 cR1
    have cRl := xR.lt
    have RF := r8Far_any px py rx ry w20 PL.out RL.out
    go_wp2_with fail
    refine (RF).mono ?_
    rintro e w21 ⟨rfl, hb21⟩
    replace HB := HB.trans (hb21.mono HB.size)
    clear cM0 cM1 cM2 cMl
    replace xM := xM.below hb21 xM.lt
    have cM0 := xM.cell 0
    have cM1 := xM.cell 1
    have cM2 := xM.cell 2
    simp at cM0 cM1 cM2
    have cMl := xM.lt
    clear cP0 cP1 cPl
    replace xP := xP.below hb21 xP.lt
    have cP0 := xP.cell 0
    have cP1 := xP.cell 1
    simp at cP0 cP1
    have cPl := xP.lt
    clear cR0 cR1 cRl
    replace xR := xR.below hb21 xR.lt
    have cR0 := xR.cell 0
    have cR1 := xR.cell 1
    simp at cR0 cR1
    have cRl := xR.lt
    replace HM := HM.trans (hb21.mono HM.size)
    clear RF
    clear cR0 cR1 cRl
    clear xR
    obtain ⟨⟨C1, C2⟩, ⟨R1, R2⟩, _, _⟩ := OK.out
    have PM := implPlainMesh_any C R w21 (by omega) (by omega)
    have hpk : plOk C R = true := by unfold plOk; rw [inB_iff.2 ⟨C1, C2⟩, inB_iff.2 ⟨R1, R2⟩]; rfl
    rw [(mPlainMesh_ok hpk).1, (mPlainMesh_ok hpk).2.1, (mPlainMesh_ok hpk).2.2.1, (mPlainMesh_ok hpk).2.2.2] at PM
    go_wp2_with fail
    refine (PM).mono ?_
    rintro e w22 ⟨⟨A2, c2, rfl, own2, hz2⟩, hb22⟩
    replace HB := HB.trans (hb22.mono HB.size)
    clear cM0 cM1 cM2 cMl
    replace xM := xM.below hb22 xM.lt
    have cM0 := xM.cell 0
    have cM1 := xM.cell 1
    have cM2 := xM.cell 2
    simp at cM0 cM1 cM2
    have cMl := xM.lt
    clear cP0 cP1 cPl
    replace xP := xP.below hb22 xP.lt
    have cP0 := xP.cell 0
    have cP1 := xP.cell 1
    simp at cP0 cP1
    have cPl := xP.lt
    replace HM := HM.trans (hb22.mono HM.size)
    clear PM nlt hz2 hpk
    clear cP0 cP1 cPl
    clear xP
    obtain ⟨N2, hN2⟩ : ∃ N2, R.toNat * C.toNat = N2 := ⟨_, rfl⟩
    have okp := plL_ok C1 C2 R1 R2
    rw [hN2] at own2 okp
    have OKP := Lib.hid okp
    rw [hN2]
    clear hN2 okp
    go_wp2_with fail
    generalize hV : World.alloc _ _ = w23
    have hb23 := below_alloc hV
    have xN := blk_alloc hV
    clear hV
    replace HB := HB.trans (hb23.mono HB.size)
    clear cM0 cM1 cM2 cMl
    replace xM := xM.below hb23 xM.lt
    have cM0 := xM.cell 0
    have cM1 := xM.cell 1
    have cM2 := xM.cell 2
    simp at cM0 cM1 cM2
    have cMl := xM.lt
    replace HM := HM.trans (hb23.mono HM.size)
    have cN0 := xN.cell 0
    have cN1 := xN.cell 1
    have cN2 := xN.cell 2
    simp at cN0 cN1 cN2
    have cNl := xN.lt
    have S2 := Lib.hid (own2.sl.below hb23)
    have HM2 := Below.refl w23.heap.size w23
    clear own2
    clear cM0 cM1 cM2 cMl
    clear xM
    obtain ⟨tx, htx⟩ : ∃ X, warpX C R (plL C R) (17 * u) (17 * v) = X := ⟨_, rfl⟩
    obtain ⟨ty, hty⟩ : ∃ X, warpY C R (plL C R) (17 * u) (17 * v) = X := ⟨_, rfl⟩
    have TL := Lib.hid (show Pl tx ty by rw [← htx, ← hty]; exact warp_pl OKP.out U.out V.out)
    have PS := plain_search C1 C2 R1 R2 U.out V.out
    simp only [htx, hty] at PS
    have TX := Lib.hid htx
    have TY := Lib.hid hty
    clear htx hty
    go_wp2_with fail
    refine (warp_is (17 * u) (17 * v) _ OKP.out (S2.out.below HM2) U.out V.out TX.out TY.out).mono ?_
    rintro e w24 ⟨rfl, hb24⟩
    replace HB := HB.trans (hb24.mono HB.size)
    clear cN0 cN1 cN2 cNl
    replace xN := xN.below hb24 xN.lt
    have cN0 := xN.cell 0
    have cN1 := xN.cell 1
    have cN2 := xN.cell 2
    simp at cN0 cN1 cN2
    have cNl := xN.lt
    replace HM := HM.trans (hb24.mono HM.size)
    replace HM2 := HM2.trans (hb24.mono HM2.size)
    go_wp2_with fail
    generalize hV : World.alloc _ _ = w25
    have hb25 := below_alloc hV
    have xT := blk_alloc hV
    clear hV
    replace HB := HB.trans (hb25.mono HB.size)
    clear cN0 cN1 cN2 cNl
    replace xN := xN.below hb25 xN.lt
    have cN0 := xN.cell 0
    have cN1 := xN.cell 1
    have cN2 := xN.cell 2
    simp at cN0 cN1 cN2
    have cNl := xN.lt
    replace HM := HM.trans (hb25.mono HM.size)
    replace HM2 := HM2.trans (hb25.mono HM2.size)
    have cT0 := xT.cell 0
    have cT1 := xT.cell 1
    simp at cT0 cT1
    have cTl := xT.lt
    have UW := unwarp_at (cc := c2) tx ty w25 OKP.out (S2.out.below HM2) TL.out
    obtain ⟨T, hT⟩ : ∃ T, searchS (gapF C R (plL C R) tx ty) = T := ⟨_, rfl⟩
    rw [hT] at PS UW
    clear hT
    obtain ⟨⟨t1, t2⟩, ⟨t3, t4⟩, t5, t6⟩ := PS
    go_wp2_with fail
    refine (UW).mono ?_
    rintro e w26 ⟨rfl, hb26⟩
    replace HB := HB.trans (hb26.mono HB.size)
    clear cN0 cN1 cN2 cNl
    replace xN := xN.below hb26 xN.lt
    have cN0 := xN.cell 0
    have cN1 := xN.cell 1
    have cN2 := xN.cell 2
    simp at cN0 cN1 cN2
    have cNl := xN.lt
    clear cT0 cT1 cTl
    replace xT := xT.below hb26 xT.lt
    have cT0 := xT.cell 0
    have cT1 := xT.cell 1
    simp at cT0 cT1
    have cTl := xT.lt
    replace HM := HM.trans (hb26.mono HM.size)
    replace HM2 := HM2.trans (hb26.mono HM2.size)
    clear UW
    have near0 := iroot_nonneg T.d
    have near1 := iroot_72 t5 t6
    have near2 : iroot T.d ≤ 12 := by omega
    have ab1 : iabs (T.u - 17 * u) ≤ 5 := by unfold iabs; split <;> omega
    have ab2 : iabs (T.v - 17 * v) ≤ 5 := by unfold iabs; split <;> omega
    have wr1 : IntKind.i64.wrap (T.u - 17 * u) = T.u - 17 * u := by rw [IntKind.wrap_i64]; omega
    have wr2 : IntKind.i64.wrap (T.v - 17 * v) = T.v - 17 * v := by rw [IntKind.wrap_i64]; omega
    go_wp2_with fail
    refine (r8Abs_eq _ _ (by omega)).mono ?_
    rintro e wz ⟨rfl, rfl⟩
    go_wp2_with fail
    refine (r8Abs_eq _ _ (by omega)).mono ?_
    rintro e wz ⟨rfl, rfl⟩
    go_wp2_with fail
    go_ret
    exact ⟨rfl, HB⟩
end Go.Proofs.Ytddcbieomklhnaa
