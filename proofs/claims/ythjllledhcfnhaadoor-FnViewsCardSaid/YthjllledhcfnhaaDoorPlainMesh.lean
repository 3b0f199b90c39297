/- Plain meshes. No condition on the size; the parts: 2 to 9. -/
import Derived.Test.YthjllledhcfnhaaDoorMesh
import Derived.Test.YthjllledhcfnhaaDoorRound
import Derived.Test.YthjllledhcfnhaaDoorAppendStep
import Derived.Test.YthjllledhcfnhaaDoorWarpMath
import Derived.IntWalk
namespace Go.Proofs.YthjllledhcfnhaaDoor
open Go.RowKit Go.Lib Go.Ks

theorem Tryd.infoSpot : (Tryd.prog.info? 81).map (fun i => (i.zero, i.size, i.bytes)) = some (some (.agg #[.int .i64 0, .int .i64 0]), 2, 16) := by kernel_rfl
theorem spot_one (l : Nat → SpotD) (n j : Nat) (hj : j < 2) : (SpotC l (n * 2 + j)).oneCell' = true := by
  match j, hj with
  | 0, _ => rw [Nat.add_zero, SpotC0]; rfl
  | 1, _ => rw [SpotC1]; rfl
def plX (C : Int) (i : Int) : Int := divr (2000000 * i) (C - 1) - 1000000
def plL (C R : Int) : Nat → SpotD := fun k => ⟨plX C ((k % C.toNat : Nat) : Int), plX R ((k / C.toNat : Nat) : Int)⟩
theorem plL_at {C R : Int} {r i : Nat} (h0 : 0 ≤ C) (h : (i : Int) < C) : plL C R (r * C.toNat + i) = ⟨plX C i, plX R r⟩ := by
  have hi : i < C.toNat := by omega
  unfold plL
  rw [Nat.mul_comm r, Nat.mul_add_mod, Nat.mod_eq_of_lt hi, Nat.mul_add_div (by omega), Nat.div_eq_of_lt hi, Nat.add_zero]
def plOk (C R : Int) : Bool := inB C 2 9 && inB R 2 9
def mPlainMeshA (C R : Int) : Int := if plOk C R = true then C else 0
def mPlainMeshB (C R : Int) : Int := if plOk C R = true then R else 0
def mPlainMeshN (C R : Int) : Nat := if plOk C R = true then R.toNat * C.toNat else 0
def mPlainMeshL (C R : Int) : Nat → SpotD := plL C R
def mPlainMeshC (C R : Int) : Int := if plOk C R = true then 0 else 2
theorem mPlainMesh_no {C R : Int} (h : plOk C R = false) : mPlainMeshA C R = 0 ∧ mPlainMeshB C R = 0 ∧ mPlainMeshN C R = 0 ∧ mPlainMeshC C R = 2 := by simp [mPlainMeshA, mPlainMeshB, mPlainMeshN, mPlainMeshC, h]
theorem mPlainMesh_ok {C R : Int} (h : plOk C R = true) : mPlainMeshA C R = C ∧ mPlainMeshB C R = R ∧ mPlainMeshN C R = R.toNat * C.toNat ∧ mPlainMeshC C R = 0 := by simp [mPlainMeshA, mPlainMeshB, mPlainMeshN, mPlainMeshC, h]
theorem mPlainMesh_len (C R : Int) : mPlainMeshN C R ≤ 1048576 := by
  unfold mPlainMeshN
  split
  · rename_i h
    simp [plOk, inB_iff] at h
    have : R.toNat * C.toNat ≤ 9 * 9 := Nat.mul_le_mul (by omega) (by omega)
    omega
  · omega
theorem retM {w w' : World} {C R C' R' : Int} {n n' : Nat} {f : Nat → Value} {code code' : Int} {A : Option Addr} {c : Nat} (hC : C = C') (hR : R = R') (hn : n = n') (hc : code = code') (h : Own w' w.heap.size 81 2 A n f) (hz : A = none → c = 0) :
    RetM w w' C' R' n' f code' (.returned (.tuple #[.agg #[.int .i64 C, .int .i64 R, .slice A n c], .int .i64 code])) := by
  subst hC; subst hR; subst hn; subst hc; exact ⟨A, c, rfl, h, hz⟩
/-- a mesh of the call's own, alone -/
def RetM1 (w w' : World) (C R : Int) (n : Nat) (f : Nat → Value) (r : Ending) : Prop :=
  ∃ A c, r = .returned (.agg #[.int .i64 C, .int .i64 R, .slice A n c]) ∧ Own w' w.heap.size 81 2 A n f ∧ (A = none → c = 0)
theorem retM1 {w w' : World} {C R : Int} {n : Nat} {f : Nat → Value} {A : Option Addr} {c : Nat} (h : Own w' w.heap.size 81 2 A n f) (hz : A = none → c = 0) :
    RetM1 w w' C R n f (.returned (.agg #[.int .i64 C, .int .i64 R, .slice A n c])) := ⟨A, c, rfl, h, hz⟩
theorem spot_news {w : World} {l : Nat → SpotD} {k : Nat} {x y : Int} (h : l k = ⟨x, y⟩) : ∀ j, j < 2 → (w.alloc (.cells #[.int .i64 x, .int .i64 y] 81)).cell? ⟨w.heap.size, j, none⟩ = some (SpotC l (k * 2 + j)) := fun j hj => by
  rw [(Blk.new w 81 #[.int .i64 x, .int .i64 y]).cell]
  match j, hj with
  | 0, _ => rw [Nat.add_zero, SpotC0, h]; rfl
  | 1, _ => rw [SpotC1, h]; rfl

theorem pl_bd {C : Int} {i : Int} (h1 : 2 ≤ C) (h2 : C ≤ 9) (h3 : 0 ≤ i) (h4 : i < C) : (0 ≤ 2000000 * i ∧ 2000000 * i ≤ 18000000) ∧ -1000000 ≤ plX C i ∧ plX C i ≤ 1000000 := by
  have e0 := divr_nonneg (a := 2000000 * i) (b := C - 1) (by omega) (by omega)
  have e1 := divr_mono (a := 2000000 * i) (a' := 2000000 * (C - 1)) (b := C - 1) (by omega) (by omega)
  rw [divr_mul (by omega)] at e1
  unfold plX
  omega

set_option maxRecDepth 100000 in
set_option maxHeartbeats 4000000 in
theorem l11Plain_any (C R : Int) (w : World) (hC : 2 ≤ C) (hC' : C ≤ 9) (hR : 2 ≤ R) (hR' : R ≤ 9) :
    Calls Tryd.prog 99 #[.int .i64 C, .int .i64 R] w fun e w' => RetM1 w w' C R (R.toNat * C.toNat) (SpotC (plL C R)) e ∧ Below w.heap.size w w' := by
  obtain ⟨i0, hi, hz0, hz1, hz2⟩ := info_parts Tryd.infoSpot
  go_enter Tryd.func99, Tryd.ntmps99
  go_wp2_with fail
  obtain ⟨wo, hwo⟩ : ∃ wo : World, wo = ((w.alloc (.cells #[.int .i64 0, .int .i64 0, .slice none 0 0] 69)).alloc (.cells #[.int .i64 C, .int .i64 R, .slice none 0 0] 69)) := ⟨_, rfl⟩
  have hb0 : Below w.heap.size w wo := by rw [hwo]; repeat (first | with_reducible exact Below.refl _ _ | with_reducible assumption | with_reducible refine Below.setCell ?_ (by simp <;> omega) _ | with_reducible refine Below.alloc ?_ (by simp <;> omega) _ | with_reducible refine Below.drew ?_)
  have x0 : Blk wo w.heap.size 69 #[.int .i64 0, .int .i64 0, .slice none 0 0] := by rw [hwo]; exact (Blk.new w 69 _).alloc _
  have y0 : Blk wo (w.heap.size + 1) 69 #[.int .i64 C, .int .i64 R, .slice none 0 0] := by
    have h := Blk.new (w.alloc (.cells #[.int .i64 0, .int .i64 0, .slice none 0 0] 69)) 69 #[.int .i64 C, .int .i64 R, .slice none 0 0]
    rw [← hwo] at h
    simpa using h
  rw [← hwo]
  clear hwo
  go_loopw [6, 7] (fun a b wr => ∃ (r : Nat) (v : Value), (r : Int) ≤ R ∧ a = .int .i64 (r : Int) ∧ Row wr w.heap.size 81 2 v (r * C.toNat) (SpotC (plL C R)) ∧ Blk wr (w.heap.size + 1) 69 #[.int .i64 C, .int .i64 R, v] ∧ Blk wr w.heap.size 69 #[.int .i64 0, .int .i64 0, .slice none 0 0] ∧ Below w.heap.size w wr) (fun a _ _ => (R - intOf a).toNat)
  case atStart => exact ⟨0, _, by omega, rfl, by rw [Nat.zero_mul]; exact Row.nil _ _ _ _ _, y0, x0, hb0⟩
  case round =>
    obtain ⟨r, v, hr, rfl, hrow, hy, hx, hbl⟩ := hrel
    have f0 := hy.cell 0
    have f1 := hy.cell 1
    have f2 := hy.cell 2
    have e0 := hx.cell 0
    have e1 := hx.cell 1
    have e2 := hx.cell 2
    simp at f0 f1 f2 e0 e1 e2
    have ly := hy.lt
    have lx := hx.lt
    by_cases hlt : (r : Int) < R
    · go_wp2_with fail
      obtain ⟨wo, rfl⟩ : ∃ wo : World, wo = wr := ⟨_, rfl⟩
      have pr := pl_bd hR hR' (i := (r : Int)) (by omega) hlt
      obtain ⟨⟨pr0, pr1⟩, pr2, pr3⟩ := pr
      have hrm : r * C.toNat ≤ 9 * 9 := Nat.mul_le_mul (by omega) (by omega)
      clear f0 f1 f2 e0 e1 e2 ly lx
      go_loopw [7] (fun b wr => ∃ (i : Nat) (v : Value), (i : Int) ≤ C ∧ b = .int .i64 (i : Int) ∧ Row wr w.heap.size 81 2 v (r * C.toNat + i) (SpotC (plL C R)) ∧ Blk wr (w.heap.size + 1) 69 #[.int .i64 C, .int .i64 R, v] ∧ Blk wr w.heap.size 69 #[.int .i64 0, .int .i64 0, .slice none 0 0] ∧ Below w.heap.size w wr) (fun b _ => (C - intOf b).toNat)
      case atStart => exact ⟨0, _, by omega, rfl, hrow, hy, hx, hbl⟩
      case round =>
        obtain ⟨i, v, hi', rfl, hrow, hy, hx, hbl⟩ := hrel
        have f0 := hy.cell 0
        have f1 := hy.cell 1
        have f2 := hy.cell 2
        have e0 := hx.cell 0
        have e1 := hx.cell 1
        have e2 := hx.cell 2
        simp at f0 f1 f2 e0 e1 e2
        have ly := hy.lt
        have lx := hx.lt
        have hsz := hbl.size
        by_cases hlt2 : (i : Int) < C
        · have pc := pl_bd hC hC' (i := (i : Int)) (by omega) hlt2
          obtain ⟨⟨pc0, pc1⟩, pc2, pc3⟩ := pc
          have hat := plL_at (R := R) (r := r) (by omega : 0 ≤ C) hlt2
          have HAT := Lib.hid hat
          clear hat
          go_wp2_with fail
          have a1 : IntKind.i64.wrap (2000000 * (i : Int)) = 2000000 * (i : Int) := IntWalk.i64_in _ (by omega)
          have a2 : IntKind.i64.wrap (2000000 * (r : Int)) = 2000000 * (r : Int) := IntWalk.i64_in _ (by omega)
          have a3 : IntKind.i64.wrap (C - 1) = C - 1 := IntWalk.i64_in _ (by omega)
          have a4 : IntKind.i64.wrap (R - 1) = R - 1 := IntWalk.i64_in _ (by omega)
          have a5 : IntKind.i64.wrap (divr (2000000 * (i : Int)) (C - 1) - 1000000) = plX C i := IntWalk.i64_in (plX C i) (by omega)
          have a6 : IntKind.i64.wrap (divr (2000000 * (r : Int)) (R - 1) - 1000000) = plX R r := IntWalk.i64_in (plX R r) (by omega)
          go_region_law (first
            | (go_simp; go_at_call_of 115 C; refine (l01Div_any _ _ (by omega) (by omega) (by omega) (by omega) _).mono ?_; rintro e vX ⟨rfl, FX⟩; have TX : Below wr.heap.size wr vX := below_then (by repeat (first | with_reducible exact Below.refl _ _ | with_reducible assumption | with_reducible refine Below.setCell ?_ (by simp <;> omega) _ | with_reducible refine Below.alloc ?_ (by simp <;> omega) _ | with_reducible refine Below.drew ?_)) FX; have hrowX := hrow.below TX; have hyX := hy.below TX hy.lt; have hxX := hx.below TX hx.lt; have fX := hyX.cell 2; simp at fX; have zX := TX.size; have lX := hyX.lt)
            | (go_simp; go_at_call_of 115 R; refine (l01Div_any _ _ (by omega) (by omega) (by omega) (by omega) _).mono ?_; rintro e vX ⟨rfl, FX⟩; have TX : Below wr.heap.size wr vX := below_then (by repeat (first | with_reducible exact Below.refl _ _ | with_reducible assumption | with_reducible refine Below.setCell ?_ (by simp <;> omega) _ | with_reducible refine Below.alloc ?_ (by simp <;> omega) _ | with_reducible refine Below.drew ?_)) FX; have hrowX := hrow.below TX; have hyX := hy.below TX hy.lt; have hxX := hx.below TX hx.lt; have fX := hyX.cell 2; simp at fX; have zX := TX.size; have lX := hyX.lt)
            | (refine step_append_row rfl _ _ 67 rfl w.heap.size 81 i0 _ 2 16 Tryd.underlying67 hi hz0 hz1 hz2 rfl (by decide) _ (r * C.toNat + i) (SpotC (plL C R)) rfl (hrowX.alloc _) _ 1 rfl (spot_news HAT.out) (spot_one _ _) (by omega) (by omega) (by simp; omega) ?_; intro v5 w5 hrow5 hg5; obtain ⟨A5, c5, rfl, _, _, _⟩ := hrow5.own; have hb5 := Row.after ((hbl.trans (TX.mono hsz)).alloc (by omega) _) (Nat.le_refl _) (by simp; omega) (hrowX.alloc _) hg5 hrow5; have hy5 := (hyX.alloc (.cells #[.int .i64 (plX C i), .int .i64 (plX R r)] 81)).row (hrowX.alloc _) hg5 (by decide); have hx5 := (hxX.alloc (.cells #[.int .i64 (plX C i), .int .i64 (plX R r)] 81)).row (hrowX.alloc _) hg5 (by decide); have f5 := hy5.cell 2; simp at f5; have g5 := hy5.frozen 2; have z5 := hy5.lt))
          all_goals
            have hrow6 := hrow5.set hy5 (by decide) 2 (.slice A5 (r * C.toNat + i + 1) c5)
            have hy6 := hy5.set_ 2 (.slice A5 (r * C.toNat + i + 1) c5)
            have hx6 := hx5.far (p := ⟨w.heap.size + 1, 2, none⟩) (by simp) (.slice A5 (r * C.toNat + i + 1) c5)
            have hb6 := hb5.setCell (p := ⟨w.heap.size + 1, 2, none⟩) (by simp) (.slice A5 (r * C.toNat + i + 1) c5)
            clear f5 g5
            go_wp2_with fail
            go_roundw
            case rel => exact ⟨i + 1, _, by omega, by go_num, hrow6, hy6, hx6, hb6⟩
            case measure => simp [intOf]; omega
        · have hC2 : i = C.toNat := by omega
          have HC2 := Lib.hid hC2
          clear hC2
          go_wp2_with fail
          go_roundw
          case rel => exact ⟨r + 1, v, by omega, by go_num, by rw [Nat.add_mul, Nat.one_mul]; have h := hrow; rw [HC2.out] at h; exact h, hy, hx, hbl⟩
          case measure => simp [intOf]; omega
    · have hR2 : r = R.toNat := by omega
      have HR2 := Lib.hid hR2
      clear hR2
      obtain ⟨A, c, rfl, _, hown, hz⟩ := hrow.own
      have g0 := hx.frozen 0
      have g1 := hx.frozen 1
      have g2 := hx.frozen 2
      go_wp2_with fail
      refine bodyPost_ret (v := .agg #[.int .i64 C, .int .i64 R, .slice A (r * C.toNat) c]) (by simp [results, Tryd.results99, go_sem, e0, e1, e2]) rfl ⟨HR2.out ▸ retM1 ?_ hz, ?_⟩
      · exact ((hown.set hx (by decide) 0 _).set (hx.set_ 0 _) (by decide) 1 _).set ((hx.set_ 0 _).set_ 1 _) (by decide) 2 _
      · repeat (first | with_reducible exact Below.refl _ _ | with_reducible assumption | with_reducible refine Below.setCell ?_ (by simp <;> omega) _ | with_reducible refine Below.alloc ?_ (by simp <;> omega) _ | with_reducible refine Below.drew ?_)

set_option maxRecDepth 100000 in
set_option maxHeartbeats 4000000 in
theorem implPlainMesh_ok (C R : Int) (w : World) (i1 : inB C 2 9 = true) (i2 : inB R 2 9 = true) (hC : 2 ≤ C) (hC' : C ≤ 9) (hR : 2 ≤ R) (hR' : R ≤ 9) :
    Calls Tryd.prog 44 #[.int .i64 C, .int .i64 R] w fun e w' => RetM w w' C R (R.toNat * C.toNat) (SpotC (plL C R)) 0 e ∧ Below w.heap.size w w' := by
  obtain ⟨i0, hi, hz0, hz1, hz2⟩ := info_parts Tryd.infoSpot
  go_enter Tryd.func44, Tryd.ntmps44
  go_wp2_with fail
  refine (within_eq _ _ _ _).mono ?_
  rintro e w1 ⟨rfl, rfl⟩
  go_wp2_with fail
  refine (within_eq _ _ _ _).mono ?_
  rintro e w1 ⟨rfl, rfl⟩
  go_wp2_with fail
  clear i1 i2
  obtain ⟨wo, hwo⟩ : ∃ wo : World, wo = ((w.alloc (.cells #[.int .i64 0, .int .i64 0, .slice none 0 0] 69)).alloc (.cells #[.int .i64 C, .int .i64 R, .slice none 0 0] 69)) := ⟨_, rfl⟩
  have hb0 : Below w.heap.size w wo := by rw [hwo]; repeat (first | with_reducible exact Below.refl _ _ | with_reducible assumption | with_reducible refine Below.setCell ?_ (by simp <;> omega) _ | with_reducible refine Below.alloc ?_ (by simp <;> omega) _ | with_reducible refine Below.drew ?_)
  have x0 : Blk wo w.heap.size 69 #[.int .i64 0, .int .i64 0, .slice none 0 0] := by rw [hwo]; exact (Blk.new w 69 _).alloc _
  have y0 : Blk wo (w.heap.size + 1) 69 #[.int .i64 C, .int .i64 R, .slice none 0 0] := by
    have h := Blk.new (w.alloc (.cells #[.int .i64 0, .int .i64 0, .slice none 0 0] 69)) 69 #[.int .i64 C, .int .i64 R, .slice none 0 0]
    rw [← hwo] at h
    simpa using h
  rw [← hwo]
  clear hwo
  go_loopw [22] (fun a wr => ∃ (r : Nat) (v : Value), (r : Int) ≤ R ∧ a = .int .i64 (r : Int) ∧ Row wr w.heap.size 81 2 v (r * C.toNat) (SpotC (plL C R)) ∧ Blk wr (w.heap.size + 1) 69 #[.int .i64 C, .int .i64 R, v] ∧ Blk wr w.heap.size 69 #[.int .i64 0, .int .i64 0, .slice none 0 0] ∧ Below w.heap.size w wr) (fun a _ => (R - intOf a).toNat)
  case atStart => exact ⟨0, _, by omega, rfl, by rw [Nat.zero_mul]; exact Row.nil _ _ _ _ _, y0, x0, hb0⟩
  case round =>
    obtain ⟨r, v, hr, rfl, hrow, hy, hx, hbl⟩ := hrel
    have f0 := hy.cell 0
    have f1 := hy.cell 1
    have f2 := hy.cell 2
    have e0 := hx.cell 0
    have e1 := hx.cell 1
    have e2 := hx.cell 2
    simp at f0 f1 f2 e0 e1 e2
    have ly := hy.lt
    have lx := hx.lt
    by_cases hlt : (r : Int) < R
    · go_wp2_with fail
      obtain ⟨wo, rfl⟩ : ∃ wo : World, wo = wr := ⟨_, rfl⟩
      have pr := pl_bd hR hR' (i := (r : Int)) (by omega) hlt
      obtain ⟨⟨pr0, pr1⟩, pr2, pr3⟩ := pr
      have hrm : r * C.toNat ≤ 9 * 9 := Nat.mul_le_mul (by omega) (by omega)
      clear f0 f1 f2 e0 e1 e2 ly lx
      go_loopw [26] (fun b wr => ∃ (i : Nat) (v : Value), (i : Int) ≤ C ∧ b = .int .i64 (i : Int) ∧ Row wr w.heap.size 81 2 v (r * C.toNat + i) (SpotC (plL C R)) ∧ Blk wr (w.heap.size + 1) 69 #[.int .i64 C, .int .i64 R, v] ∧ Blk wr w.heap.size 69 #[.int .i64 0, .int .i64 0, .slice none 0 0] ∧ Below w.heap.size w wr) (fun b _ => (C - intOf b).toNat)
      case atStart => exact ⟨0, _, by omega, rfl, hrow, hy, hx, hbl⟩
      case round =>
        obtain ⟨i, v, hi', rfl, hrow, hy, hx, hbl⟩ := hrel
        have f0 := hy.cell 0
        have f1 := hy.cell 1
        have f2 := hy.cell 2
        have e0 := hx.cell 0
        have e1 := hx.cell 1
        have e2 := hx.cell 2
        simp at f0 f1 f2 e0 e1 e2
        have ly := hy.lt
        have lx := hx.lt
        have hsz := hbl.size
        by_cases hlt2 : (i : Int) < C
        · have pc := pl_bd hC hC' (i := (i : Int)) (by omega) hlt2
          obtain ⟨⟨pc0, pc1⟩, pc2, pc3⟩ := pc
          have hat := plL_at (R := R) (r := r) (by omega : 0 ≤ C) hlt2
          have HAT := Lib.hid hat
          clear hat
          go_wp2_with fail
          have a1 : IntKind.i64.wrap (2000000 * (i : Int)) = 2000000 * (i : Int) := IntWalk.i64_in _ (by omega)
          have a2 : IntKind.i64.wrap (2000000 * (r : Int)) = 2000000 * (r : Int) := IntWalk.i64_in _ (by omega)
          have a3 : IntKind.i64.wrap (C - 1) = C - 1 := IntWalk.i64_in _ (by omega)
          have a4 : IntKind.i64.wrap (R - 1) = R - 1 := IntWalk.i64_in _ (by omega)
          have a5 : IntKind.i64.wrap (divr (2000000 * (i : Int)) (C - 1) - 1000000) = plX C i := IntWalk.i64_in (plX C i) (by omega)
          have a6 : IntKind.i64.wrap (divr (2000000 * (r : Int)) (R - 1) - 1000000) = plX R r := IntWalk.i64_in (plX R r) (by omega)
          go_region_law (first
            | (go_simp; go_at_call_of 90 C; refine (nearest_any _ _ (by omega) (by omega) (by omega) (by omega) _).mono ?_; rintro e vX ⟨rfl, FX⟩; have TX : Below wr.heap.size wr vX := below_then (by repeat (first | with_reducible exact Below.refl _ _ | with_reducible assumption | with_reducible refine Below.setCell ?_ (by simp <;> omega) _ | with_reducible refine Below.alloc ?_ (by simp <;> omega) _ | with_reducible refine Below.drew ?_)) FX; have hrowX := hrow.below TX; have hyX := hy.below TX hy.lt; have hxX := hx.below TX hx.lt; have fX := hyX.cell 2; simp at fX; have zX := TX.size; have lX := hyX.lt)
            | (go_simp; go_at_call_of 90 R; refine (nearest_any _ _ (by omega) (by omega) (by omega) (by omega) _).mono ?_; rintro e vX ⟨rfl, FX⟩; have TX : Below wr.heap.size wr vX := below_then (by repeat (first | with_reducible exact Below.refl _ _ | with_reducible assumption | with_reducible refine Below.setCell ?_ (by simp <;> omega) _ | with_reducible refine Below.alloc ?_ (by simp <;> omega) _ | with_reducible refine Below.drew ?_)) FX; have hrowX := hrow.below TX; have hyX := hy.below TX hy.lt; have hxX := hx.below TX hx.lt; have fX := hyX.cell 2; simp at fX; have zX := TX.size; have lX := hyX.lt)
            | (refine step_append_row rfl _ _ 67 rfl w.heap.size 81 i0 _ 2 16 Tryd.underlying67 hi hz0 hz1 hz2 rfl (by decide) _ (r * C.toNat + i) (SpotC (plL C R)) rfl (hrowX.alloc _) _ 1 rfl (spot_news HAT.out) (spot_one _ _) (by omega) (by omega) (by simp; omega) ?_; intro v5 w5 hrow5 hg5; obtain ⟨A5, c5, rfl, _, _, _⟩ := hrow5.own; have hb5 := Row.after ((hbl.trans (TX.mono hsz)).alloc (by omega) _) (Nat.le_refl _) (by simp; omega) (hrowX.alloc _) hg5 hrow5; have hy5 := (hyX.alloc (.cells #[.int .i64 (plX C i), .int .i64 (plX R r)] 81)).row (hrowX.alloc _) hg5 (by decide); have hx5 := (hxX.alloc (.cells #[.int .i64 (plX C i), .int .i64 (plX R r)] 81)).row (hrowX.alloc _) hg5 (by decide); have f5 := hy5.cell 2; simp at f5; have g5 := hy5.frozen 2; have z5 := hy5.lt))
          all_goals
            have hrow6 := hrow5.set hy5 (by decide) 2 (.slice A5 (r * C.toNat + i + 1) c5)
            have hy6 := hy5.set_ 2 (.slice A5 (r * C.toNat + i + 1) c5)
            have hx6 := hx5.far (p := ⟨w.heap.size + 1, 2, none⟩) (by simp) (.slice A5 (r * C.toNat + i + 1) c5)
            have hb6 := hb5.setCell (p := ⟨w.heap.size + 1, 2, none⟩) (by simp) (.slice A5 (r * C.toNat + i + 1) c5)
            clear f5 g5
            go_wp2_with fail
            go_roundw
            case rel => exact ⟨i + 1, _, by omega, by go_num, hrow6, hy6, hx6, hb6⟩
            case measure => simp [intOf]; omega
        · have hC2 : i = C.toNat := by omega
          have HC2 := Lib.hid hC2
          clear hC2
          go_wp2_with fail
          go_roundw
          case rel => exact ⟨r + 1, v, by omega, by go_num, by rw [Nat.add_mul, Nat.one_mul]; have h := hrow; rw [HC2.out] at h; exact h, hy, hx, hbl⟩
          case measure => simp [intOf]; omega
    · have hR2 : r = R.toNat := by omega
      have HR2 := Lib.hid hR2
      clear hR2
      obtain ⟨A, c, rfl, _, hown, hz⟩ := hrow.own
      have g0 := hx.frozen 0
      have g1 := hx.frozen 1
      have g2 := hx.frozen 2
      go_wp2_with fail
      refine bodyPost_ret (v := .tuple #[.agg #[.int .i64 C, .int .i64 R, .slice A (r * C.toNat) c], .int .i64 0]) (by simp [results, Tryd.results44, go_sem, e0, e1, e2]) rfl ⟨HR2.out ▸ retM rfl rfl rfl rfl ?_ hz, ?_⟩
      · exact ((hown.set hx (by decide) 0 _).set (hx.set_ 0 _) (by decide) 1 _).set ((hx.set_ 0 _).set_ 1 _) (by decide) 2 _
      · repeat (first | with_reducible exact Below.refl _ _ | with_reducible assumption | with_reducible refine Below.setCell ?_ (by simp <;> omega) _ | with_reducible refine Below.alloc ?_ (by simp <;> omega) _ | with_reducible refine Below.drew ?_)

theorem implPlainMesh_any (C R : Int) (w : World) (_hC : -9223372036854775808 ≤ C ∧ C ≤ 9223372036854775807) (_hR : -9223372036854775808 ≤ R ∧ R ≤ 9223372036854775807) :
    Calls Tryd.prog 44 #[.int .i64 C, .int .i64 R] w fun e w' => RetM w w' (mPlainMeshA C R) (mPlainMeshB C R) (mPlainMeshN C R) (SpotC (mPlainMeshL C R)) (mPlainMeshC C R) e ∧ Below w.heap.size w w' := by
  cases i1 : inB C 2 9
  · have E := Lib.hid (mPlainMesh_no (C := C) (R := R) (by simp [plOk, i1]))
    go_enter Tryd.func44, Tryd.ntmps44
    go_wp2_with fail
    refine (within_eq _ _ _ _).mono ?_
    rintro e w1 ⟨rfl, rfl⟩
    go_wp2_with fail
    refine bodyPost_ret (v := .tuple #[.agg #[.int .i64 0, .int .i64 0, .slice none 0 0], .int .i64 2]) (by simp [results, Tryd.results44, go_sem]) rfl ⟨retM E.out.1.symm E.out.2.1.symm E.out.2.2.1.symm E.out.2.2.2.symm (Own.nil _ _ _ _ _) (fun _ => rfl), ?_⟩
    repeat (first | with_reducible exact Below.refl _ _ | with_reducible assumption | with_reducible refine Below.setCell ?_ (by simp <;> omega) _ | with_reducible refine Below.alloc ?_ (by simp <;> omega) _ | with_reducible refine Below.drew ?_)
  cases i2 : inB R 2 9
  · have E := Lib.hid (mPlainMesh_no (C := C) (R := R) (by simp [plOk, i2]))
    go_enter Tryd.func44, Tryd.ntmps44
    go_wp2_with fail
    refine (within_eq _ _ _ _).mono ?_
    rintro e w1 ⟨rfl, rfl⟩
    go_wp2_with fail
    refine (within_eq _ _ _ _).mono ?_
    rintro e w1 ⟨rfl, rfl⟩
    go_wp2_with fail
    refine bodyPost_ret (v := .tuple #[.agg #[.int .i64 0, .int .i64 0, .slice none 0 0], .int .i64 2]) (by simp [results, Tryd.results44, go_sem]) rfl ⟨retM E.out.1.symm E.out.2.1.symm E.out.2.2.1.symm E.out.2.2.2.symm (Own.nil _ _ _ _ _) (fun _ => rfl), ?_⟩
    repeat (first | with_reducible exact Below.refl _ _ | with_reducible assumption | with_reducible refine Below.setCell ?_ (by simp <;> omega) _ | with_reducible refine Below.alloc ?_ (by simp <;> omega) _ | with_reducible refine Below.drew ?_)
  have E := mPlainMesh_ok (C := C) (R := R) (by simp [plOk, i1, i2])
  have r1 := inB_iff.1 i1
  have r2 := inB_iff.1 i2
  have h := implPlainMesh_ok C R w i1 i2 r1.1 r1.2 r2.1 r2.2
  rw [E.1, E.2.1, E.2.2.1, E.2.2.2]
  exact h
end Go.Proofs.YthjllledhcfnhaaDoor
