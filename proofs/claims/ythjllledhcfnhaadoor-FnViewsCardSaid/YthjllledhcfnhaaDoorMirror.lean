/- Mirrored meshes. Conditions: the slice reads as spots. -/
import Derived.Test.YthjllledhcfnhaaDoorPlainMesh
import Derived.Deep.RegionHeld3
import Derived.Deep.DeepCutAuto
namespace Go.Proofs.YthjllledhcfnhaaDoor
open Go.RowKit Go.Lib Go.Ks

theorem spot_news' {w : World} {l : Nat → SpotD} {k g : Nat} {x y : Int} (hg : g = w.heap.size) (h : l k = ⟨x, y⟩) : ∀ j, j < 2 → (w.alloc (.cells #[.int .i64 x, .int .i64 y] 81)).cell? ⟨g, j, none⟩ = some (SpotC l (k * 2 + j)) := by
  subst hg
  exact spot_news h
/-- point q of the mirrored mesh -/
def mirL (c : Nat) (l : Nat → SpotD) : Nat → SpotD := fun q => ⟨-(l (q / c * c + (c - 1 - q % c))).f0, (l (q / c * c + (c - 1 - q % c))).f1⟩
theorem mirL_at {c r i : Nat} {l : Nat → SpotD} (h : i < c) : mirL c l (r * c + i) = ⟨-(l (r * c + (c - 1 - i))).f0, (l (r * c + (c - 1 - i))).f1⟩ := by
  unfold mirL
  have e1 : (r * c + i) / c = r := by rw [Nat.mul_comm, Nat.mul_add_div (by omega), Nat.div_eq_of_lt h, Nat.add_zero]
  have e2 : (r * c + i) % c = i := by rw [Nat.mul_comm, Nat.mul_add_mod, Nat.mod_eq_of_lt h]
  rw [e1, e2]
open Classical in
noncomputable def mMirrorMeshA (C R : Int) (n : Nat) (l : Nat → SpotD) : Int := if MeshOk C R n l then C else 0
open Classical in
noncomputable def mMirrorMeshB (C R : Int) (n : Nat) (l : Nat → SpotD) : Int := if MeshOk C R n l then R else 0
open Classical in
noncomputable def mMirrorMeshN (C R : Int) (n : Nat) (l : Nat → SpotD) : Nat := if MeshOk C R n l then n else 0
def mMirrorMeshL (C _R : Int) (_n : Nat) (l : Nat → SpotD) : Nat → SpotD := mirL C.toNat l
open Classical in
noncomputable def mMirrorMeshC (C R : Int) (n : Nat) (l : Nat → SpotD) : Int := if MeshOk C R n l then 0 else 1
section
variable {C R : Int} {n : Nat} {l : Nat → SpotD}
theorem mMirror_no (h : ¬ MeshOk C R n l) : mMirrorMeshA C R n l = 0 ∧ mMirrorMeshB C R n l = 0 ∧ mMirrorMeshN C R n l = 0 ∧ mMirrorMeshC C R n l = 1 := ⟨if_neg h, if_neg h, if_neg h, if_neg h⟩
theorem mMirror_ok (h : MeshOk C R n l) : mMirrorMeshA C R n l = C ∧ mMirrorMeshB C R n l = R ∧ mMirrorMeshN C R n l = n ∧ mMirrorMeshC C R n l = 0 := ⟨if_pos h, if_pos h, if_pos h, if_pos h⟩
theorem mesh_len (h : MeshOk C R n l) : n ≤ 81 := by
  obtain ⟨⟨h1, h2⟩, ⟨h3, h4⟩, h5, _⟩ := h
  have := mul_bd (a := C) (b := R) (m := 9) (n := 9) (by omega) (by omega) (by omega) (by omega) (by omega)
  omega
theorem mMirrorMesh_len (C R : Int) (n : Nat) (l : Nat → SpotD) : mMirrorMeshN C R n l ≤ 1048576 := by
  unfold mMirrorMeshN
  split
  · rename_i h
    have := mesh_len h
    omega
  · omega
end

/-- element k of a row of spots is stored anew -/
theorem spot_put {w : World} {B m n k : Nat} {h : Nat → Value} {L L' : Nat → SpotD} {x y : Int} (hb : Blk w B 81 (arr m h)) (hh : ∀ j, j < n * 2 → h j = SpotC L j) (hL : ∀ q, q ≠ k → L' q = L q) (hk : L' k = ⟨x, y⟩) :
    ∃ h', Blk ((w.setCell ⟨B, k * 2, none⟩ (.int .i64 x)).setCell ⟨B, k * 2 + 1, none⟩ (.int .i64 y)) B 81 (arr m h') ∧ ∀ j, j < n * 2 → h' j = SpotC L' j := by
  have h1 := (hb.set_ (k * 2) (.int .i64 x)).set_ (k * 2 + 1) (.int .i64 y)
  rw [arr_set, arr_set] at h1
  refine ⟨_, h1, fun j hj => ?_⟩
  by_cases e1 : j = k * 2 + 1
  · rw [if_pos e1, e1, SpotC1, hk]
  · rw [if_neg e1]
    by_cases e0 : j = k * 2
    · rw [if_pos e0, e0, SpotC0, hk]
    · rw [if_neg e0, hh j hj]
      have hq : j / 2 ≠ k := by omega
      have e := hL _ hq
      unfold SpotC rc SpotF
      split <;> rw [e]
def partL (f l : Nat → SpotD) (k : Nat) : Nat → SpotD := fun q => if q < k then f q else l q
theorem partL_step {f l : Nat → SpotD} {k : Nat} : ∀ q, q ≠ k → partL f l (k + 1) q = partL f l k q := fun q hq => by
  unfold partL
  by_cases h : q < k
  · rw [if_pos h, if_pos (by omega)]
  · rw [if_neg h, if_neg (by omega)]
theorem partL_at {f l : Nat → SpotD} {k : Nat} : partL f l (k + 1) k = f k := if_pos (by omega)
theorem partL_done {f l : Nat → SpotD} {n j : Nat} (hj : j < n * 2) : SpotC (partL f l n) j = SpotC f j := by
  have hq : j / 2 < n := by omega
  have e : partL f l n (j / 2) = f (j / 2) := if_pos hq
  unfold SpotC rc SpotF
  split <;> rw [e]
theorem partL_none {f l : Nat → SpotD} (j : Nat) : SpotC (partL f l 0) j = SpotC l j := by
  have e : partL f l 0 (j / 2) = l (j / 2) := if_neg (by omega)
  unfold SpotC rc SpotF
  split <;> rw [e]
theorem Own.some_blk {w : World} {base : Nat} {e : TypeId} {size : Nat} {A : Option Addr} {n : Nat} {f : Nat → Value} (h : Own w base e size A n f) (hn : 0 < n) : ∃ B m h', A = some ⟨B, 0, none⟩ ∧ base ≤ B ∧ Blk w B e (arr m h') ∧ n * size ≤ m ∧ ∀ j, j < n * size → h' j = f j := by
  rcases h with ⟨_, h0⟩ | h
  · omega
  · exact h
set_option maxRecDepth 100000 in
set_option maxHeartbeats 4000000 in
theorem implMirrorMesh_any (C R : Int) (A : Option Addr) (n cp : Nat) (l : Nat → SpotD) (w : World) (hn : n ≤ 1048576) (hs : Sl w A (n * 2) (SpotC l)) (_hg : ∀ k, k < n → SpotOk (l k)) :
    Calls Tryd.prog 41 #[.agg #[.int .i64 C, .int .i64 R, .slice A n cp]] w fun e w' => RetM w w' (mMirrorMeshA C R n l) (mMirrorMeshB C R n l) (mMirrorMeshN C R n l) (SpotC (mMirrorMeshL C R n l)) (mMirrorMeshC C R n l) e ∧ Below w.heap.size w w' := by
  obtain ⟨i0, hi, hz0, hz1, hz2⟩ := info_parts Tryd.infoSpot
  go_enter Tryd.func41, Tryd.ntmps41
  go_wp2_with fail
  generalize hW : World.alloc (World.alloc w _) _ = w1
  have hb1 : Below w.heap.size w w1 := by rw [← hW]; repeat (first | with_reducible exact Below.refl _ _ | with_reducible assumption | with_reducible refine Below.setCell ?_ (by first | omega | (simp <;> omega)) _ | with_reducible refine Below.alloc ?_ (by first | omega | (simp <;> omega)) _ | with_reducible refine Below.drew ?_)
  have x0 : Blk w1 w.heap.size 69 #[.int .i64 C, .int .i64 R, .slice A n cp] := by rw [← hW]; exact (Blk.new w _ _).alloc _
  have x1 : Blk w1 (w.heap.size + 1) 69 #[.int .i64 0, .int .i64 0, .slice none 0 0] := by
    have h := Blk.new (w.alloc (.cells #[.int .i64 C, .int .i64 R, .slice A n cp] 69)) 69 #[.int .i64 0, .int .i64 0, .slice none 0 0]
    rw [hW] at h
    simpa using h
  clear hW
  have a0 := x0.cell 0
  have a1 := x0.cell 1
  have a2 := x0.cell 2
  simp at a0 a1 a2
  have la := x0.lt
  refine (validMesh_any C R _ n cp l _ hn (hs.below hb1)).mono ?_
  rintro e w2 ⟨rfl, hb2⟩
  have hbw2 := hb1.trans (hb2.mono hb1.size)
  have y1 := x1.below hb2 x1.lt
  have y0 := x0.below hb2 x0.lt
  clear a0 a1 a2
  have s2 := hbw2.size
  have z0 := y1.cell 0
  have z1 := y1.cell 1
  have z2 := y1.cell 2
  simp at z0 z1 z2
  have lz := y1.lt
  cases ok : meshOk C R n l
  · have E := Lib.hid (mMirror_no (C := C) (R := R) (n := n) (l := l) (fun h => by rw [meshOk_yes h] at ok; cases ok))
    have gz0 := y1.frozen 0
    have gz1 := y1.frozen 1
    have gz2 := y1.frozen 2
    go_wp2_with fail
    refine bodyPost_ret (v := .tuple #[.agg #[.int .i64 0, .int .i64 0, .slice none 0 0], .int .i64 1]) (by simp [results, Tryd.results41, go_sem, z0, z1, z2]) rfl ⟨retM E.out.1.symm E.out.2.1.symm E.out.2.2.1.symm E.out.2.2.2.symm (Own.nil _ _ _ _ _) (fun _ => rfl), ?_⟩
    repeat (first | with_reducible exact Below.refl _ _ | with_reducible assumption | with_reducible refine Below.setCell ?_ (by first | omega | (simp <;> omega)) _ | with_reducible refine Below.alloc ?_ (by first | omega | (simp <;> omega)) _ | with_reducible refine Below.drew ?_)
  have OK := meshOk_of ok
  clear ok
  have E := Lib.hid (mMirror_ok OK)
  obtain ⟨⟨hC1, hC2⟩, ⟨hR1, hR2⟩, hnC, hpl⟩ := OK
  obtain ⟨c, rfl⟩ := Int.eq_ofNat_of_zero_le (by omega : 0 ≤ C)
  obtain ⟨r, rfl⟩ := Int.eq_ofNat_of_zero_le (by omega : 0 ≤ R)
  have hnc : n = r * c := by
    have : ((n : Nat) : Int) = ((c * r : Nat) : Int) := by rw [hnC, Int.natCast_mul]
    rw [Nat.mul_comm]; omega
  have HN := Lib.hid hnc
  have HPL := Lib.hid hpl
  clear hpl hnC hnc
  have b0 := y0.cell 0
  have b1 := y0.cell 1
  have b2 := y0.cell 2
  simp at b0 b1 b2
  have lb := y0.lt
  have hs2 := hs.below hbw2
  have npos : 0 < n := by rw [HN.out]; exact Nat.mul_pos (by omega) (by omega)
  clear z0 z1 z2 lz
  go_wp2_with fail
  go_cut [4] (fun s wr => ∃ (Bo : Nat) (A' : Option Addr) (c' : Nat), s = .pointer (some ⟨Bo, 0, none⟩) ∧ Blk wr Bo 69 #[.int .i64 (c : Int), .int .i64 (r : Int), .slice A' n c'] ∧ Own wr w2.heap.size 81 2 A' n (SpotC l) ∧ (A' = none → c' = 0) ∧ w2.heap.size ≤ Bo ∧ Below w2.heap.size w2 wr)
  case first =>
    have ks : ∀ w' : World, Below w2.heap.size w2 w' → w'.cell? ⟨w.heap.size, 0, none⟩ = some (.int .i64 (c : Int)) ∧ w'.cell? ⟨w.heap.size, 1, none⟩ = some (.int .i64 (r : Int)) ∧ w'.cell? ⟨w.heap.size, 2, none⟩ = some (.slice A n cp) := fun w' h => ⟨(y0.below h y0.lt).cell 0, (y0.below h y0.lt).cell 1, (y0.below h y0.lt).cell 2⟩
    have KS := Lib.hid ks
    clear ks
    go_region_held3 (fun w' => w'.cell? ⟨w.heap.size, 0, none⟩ = some (.int .i64 (c : Int)) ∧ w'.cell? ⟨w.heap.size, 1, none⟩ = some (.int .i64 (r : Int)) ∧ w'.cell? ⟨w.heap.size, 2, none⟩ = some (.slice A n cp))
      (exact KS.out _ (by repeat (first | with_reducible exact Below.refl _ _ | with_reducible assumption | with_reducible refine Below.setCell ?_ (by first | omega | (simp <;> omega)) _ | with_reducible refine Below.alloc ?_ (by first | omega | (simp <;> omega)) _ | with_reducible refine Below.drew ?_)))
      (first
        | (go_at_call 101; refine (cloneSpot_any A n cp l _ hn npos (hs2.below (by repeat (first | with_reducible exact Below.refl _ _ | with_reducible assumption | with_reducible refine Below.setCell ?_ (by first | omega | (simp <;> omega)) _ | with_reducible refine Below.alloc ?_ (by first | omega | (simp <;> omega)) _ | with_reducible refine Below.drew ?_)))).mono ?_; rintro e vX ⟨⟨A', c', rfl, ox, hz⟩, FX⟩; have TX : Below w2.heap.size w2 vX := below_then (by repeat (first | with_reducible exact Below.refl _ _ | with_reducible assumption | with_reducible refine Below.setCell ?_ (by first | omega | (simp <;> omega)) _ | with_reducible refine Below.alloc ?_ (by first | omega | (simp <;> omega)) _ | with_reducible refine Below.drew ?_)) FX; have sX := TX.size; have oy := ox.mono (base' := w2.heap.size) (by simp); (first | ((first | (with_reducible have zx := made_step FX) | (with_reducible have zx := made_step' FX)); have zf0 := zx.cell 0; have zf1 := zx.cell 1; have zf2 := zx.cell 2; have zg0 := zx.frozen 0; have zg1 := zx.frozen 1; have zg2 := zx.frozen 2; have zl := zx.lt) | skip)))
    all_goals (try go_wp2_with fail)
    all_goals go_meet
    · exact ⟨_, A', c', rfl, Blk.new _ _ _, oy.below (by repeat (first | with_reducible exact Below.refl _ _ | with_reducible assumption | with_reducible refine Below.setCell ?_ (by first | omega | (simp <;> omega)) _ | with_reducible refine Below.alloc ?_ (by first | omega | (simp <;> omega)) _ | with_reducible refine Below.drew ?_)), hz, by omega, by repeat (first | with_reducible exact Below.refl _ _ | with_reducible assumption | with_reducible refine Below.setCell ?_ (by first | omega | (simp <;> omega)) _ | with_reducible refine Below.alloc ?_ (by first | omega | (simp <;> omega)) _ | with_reducible refine Below.drew ?_)⟩
    · exact ⟨_, A', c', rfl, ((zx.set_ 0 _).set_ 1 _).set_ 2 _, ((oy.set zx (by decide) 0 _).set (zx.set_ 0 _) (by decide) 1 _).set ((zx.set_ 0 _).set_ 1 _) (by decide) 2 _, hz, Nat.le_refl _, by repeat (first | with_reducible exact Below.refl _ _ | with_reducible assumption | with_reducible refine Below.setCell ?_ (by first | omega | (simp <;> omega)) _ | with_reducible refine Below.alloc ?_ (by first | omega | (simp <;> omega)) _ | with_reducible refine Below.drew ?_)⟩
  obtain ⟨Bo, A', c', rfl, o0, own0, hz, hBo, hb3⟩ := hcut
  obtain ⟨w3, rfl⟩ : ∃ q : World, q = wc := ⟨_, rfl⟩
  obtain ⟨Bs, ms, h0, rfl, hBs, ho0, hms, hh0⟩ := Own.some_blk own0 npos
  have hne : Bo ≠ Bs := fun e => by
    subst e
    unfold Blk at o0 ho0
    rw [o0] at ho0
    injection ho0 with ho0
    injection ho0 with _ ho0 _
    exact absurd ho0 (by decide)
  clear b0 b1 b2 lb hz own0
  have q0 := y0.below hb3 y0.lt
  have b0 := q0.cell 0
  have b1 := q0.cell 1
  have b2 := q0.cell 2
  simp at b0 b1 b2
  have lb := q0.lt
  go_wp2_with fail
  clear b0 b1 b2 lb q0
  go_loopw [22] (fun a wr => ∃ (j : Nat) (h : Nat → Value), j ≤ r ∧ a = .int .i64 (j : Int) ∧ Blk wr Bs 81 (arr ms h) ∧ (∀ x, x < n * 2 → h x = SpotC (partL (mirL c l) l (j * c)) x) ∧ Blk wr Bo 69 #[.int .i64 (c : Int), .int .i64 (r : Int), .slice (some ⟨Bs, 0, none⟩) n c'] ∧ Below w2.heap.size w2 wr) (fun a _ => (r - (intOf a).toNat))
  case atStart => exact ⟨0, h0, by omega, rfl, ho0, fun x hx => (hh0 x hx).trans (by rw [Nat.zero_mul]; exact (partL_none x).symm), o0, hb3⟩
  case round =>
    obtain ⟨j, h, hj, rfl, hblk, hh, ho, hbl⟩ := hrel
    have q0 := y0.below hbl y0.lt
    have q1 := y1.below hbl y1.lt
    have d0 := q0.cell 0
    have d1 := q0.cell 1
    simp at d0 d1
    have lq := q0.lt
    have HH := Lib.hid hh
    clear hh
    by_cases hlt : j < r
    · go_wp2_with fail
      obtain ⟨wo, rfl⟩ : ∃ wo : World, wo = wr := ⟨_, rfl⟩
      have hrm : j * c ≤ 8 * 9 := Nat.mul_le_mul (by omega) (by omega)
      have hrm2 : (j : Int) * (c : Int) = ((j * c : Nat) : Int) := (Int.natCast_mul j c).symm
      have HRM := Lib.hid hrm2
      have hr1 : 0 ≤ (j : Int) * (c : Int) := by rw [hrm2]; omega
      have hr2 : (j : Int) * (c : Int) ≤ 72 := by rw [hrm2]; omega
      have hjn : j * c + c ≤ n := by
        rw [HN.out]
        have : (j + 1) * c ≤ r * c := Nat.mul_le_mul_right c (by omega)
        rw [Nat.add_mul, Nat.one_mul] at this
        exact this
      clear d0 d1 lq hrm2 q0 q1
      go_loopw [27] (fun b wr => ∃ (i : Nat) (h : Nat → Value), i ≤ c ∧ b = .int .i64 (i : Int) ∧ Blk wr Bs 81 (arr ms h) ∧ (∀ x, x < n * 2 → h x = SpotC (partL (mirL c l) l (j * c + i)) x) ∧ Blk wr Bo 69 #[.int .i64 (c : Int), .int .i64 (r : Int), .slice (some ⟨Bs, 0, none⟩) n c'] ∧ Below w2.heap.size w2 wr) (fun b _ => (c - (intOf b).toNat))
      case atStart => exact ⟨0, h, by omega, rfl, hblk, HH.out, ho, hbl⟩
      case round =>
        obtain ⟨i, h, hi', rfl, hblk, hh, ho, hbl⟩ := hrel
        have HH2 := Lib.hid hh
        clear hh
        have q0 := y0.below hbl y0.lt
        have d0 := q0.cell 0
        have d1 := q0.cell 1
        have d2 := q0.cell 2
        simp at d0 d1 d2
        have lq := q0.lt
        have hsz := hbl.size
        by_cases hlt2 : i < c
        · have hat := mirL_at (r := j) (l := l) hlt2
          have hbw := hbw2.trans (hbl.mono hbw2.size)
          obtain ⟨q, hq⟩ : ∃ q, q = j * c + (c - 1 - i) := ⟨_, rfl⟩
          obtain ⟨k, hkk⟩ : ∃ k, k = j * c + i := ⟨_, rfl⟩
          have hk : (j : Int) * (c : Int) + (c : Int) - 1 - (i : Int) = (q : Int) := by rw [HRM.out]; omega
          have hk2 : (j : Int) * (c : Int) + (i : Int) = (k : Int) := by rw [HRM.out]; omega
          have hqn : q < n := by omega
          have hqn2 : (q : Int) < (n : Int) := by omega
          have hkn : (k : Int) < (n : Int) := by omega
          have hkn2 : k * 2 + 1 < ms := by omega
          rw [← hq, ← hkk] at hat
          rw [← hkk] at HH2
          have HAT := Lib.hid hat
          have HKK := Lib.hid hkk
          clear hq hat hkk
          obtain ⟨b, off, rfl, hb, hc⟩ := hs (by omega)
          have hbr : b < wr.heap.size := by have := hbw.size; omega
          have e0 : wr.cell? ⟨b, off + q * 2, none⟩ = some (.int .i64 (l q).f0) := by rw [hbw.cell (by exact hb), hc _ (by omega), SpotC0]
          have e1 : wr.cell? ⟨b, off + q * 2 + 1, none⟩ = some (.int .i64 (l q).f1) := by rw [hbw.cell (by exact hb), Nat.add_assoc, hc _ (by omega), SpotC1]
          clear hc
          have pq := plane_iff.1 (HPL.out q hqn)
          obtain ⟨⟨pq1, pq2⟩, pq3, pq4⟩ := pq
          have f2 := ho.cell 2
          simp at f2
          have lo := ho.lt
          have lbs := hblk.lt
          have c0 : wr.cell? ⟨Bs, k * 2, none⟩ = some (h (k * 2)) := by rw [hblk.cell, arr_get _ _ _ (by omega)]
          have c1 : wr.cell? ⟨Bs, k * 2 + 1, none⟩ = some (h (k * 2 + 1)) := by rw [hblk.cell, arr_get _ _ _ (by omega)]
          have g0 := hblk.frozen (k * 2)
          have g1 := hblk.frozen (k * 2 + 1)
          obtain ⟨h', hp1, hp2⟩ := spot_put (k := k) (L' := partL (mirL c l) l (k + 1)) (x := -(l q).f0) (y := (l q).f1) hblk HH2.out partL_step (partL_at.trans HAT.out)
          have HP2 := Lib.hid hp2
          clear hp2
          have ho6 := ((ho.far (p := ⟨Bs, k * 2, none⟩) hne (.int .i64 (-(l q).f0))).far (p := ⟨Bs, k * 2 + 1, none⟩) hne (.int .i64 (l q).f1)).alloc (.cells #[.int .i64 (l q).f0, .int .i64 (l q).f1] 81)
          have hb6 := ((hbl.setCell (p := ⟨Bs, k * 2, none⟩) hBs (.int .i64 (-(l q).f0))).setCell (p := ⟨Bs, k * 2 + 1, none⟩) hBs (.int .i64 (l q).f1)).alloc (by simp; omega) (.cells #[.int .i64 (l q).f0, .int .i64 (l q).f1] 81)
          go_wp2_with fail
          go_roundw
          case rel => exact ⟨i + 1, h', by omega, by go_num, hp1.alloc _, by rw [← Nat.add_assoc, ← HKK.out]; exact HP2.out, ho6, hb6⟩
          case measure => simp [intOf]; omega
        · have hC2 : i = c := by omega
          have HC2 := Lib.hid hC2
          clear hC2
          go_wp2_with fail
          go_roundw
          case rel => exact ⟨j + 1, h, by omega, by go_num, hblk, by rw [Nat.add_mul, Nat.one_mul]; have h2 := HH2.out; rw [HC2.out] at h2; exact h2, ho, hbl⟩
          case measure => simp [intOf]; omega
    · have hR2 : j = r := by omega
      have HR2 := Lib.hid hR2
      clear hR2
      have hown : Own wr w2.heap.size 81 2 (some ⟨Bs, 0, none⟩) n (SpotC (mirL c l)) := Own.blk hblk hBs hms (fun x hx => (HH.out x hx).trans (by rw [HR2.out, ← HN.out]; exact partL_done hx))
      have z0 := q1.cell 0
      have z1 := q1.cell 1
      have z2 := q1.cell 2
      have o0 := ho.cell 0
      have o1 := ho.cell 1
      have o2 := ho.cell 2
      simp at z0 z1 z2 o0 o1 o2
      have lo := ho.lt
      have lz := q1.lt
      have g0 := q1.frozen 0
      have g1 := q1.frozen 1
      have g2 := q1.frozen 2
      have hbw := hbw2.trans (hbl.mono hbw2.size)
      have ho2 := hown.mono (base' := w.heap.size) (by omega)
      go_wp2_with fail
      refine bodyPost_ret (v := .tuple #[.agg #[.int .i64 (c : Int), .int .i64 (r : Int), .slice (some ⟨Bs, 0, none⟩) n c'], .int .i64 0]) (by simp [results, Tryd.results41, go_sem, z0, z1, z2]) rfl ⟨retM E.out.1.symm E.out.2.1.symm E.out.2.2.1.symm E.out.2.2.2.symm ?_ (fun h => by cases h), ?_⟩
      · exact ((ho2.set q1 (by decide) 0 _).set (q1.set_ 0 _) (by decide) 1 _).set ((q1.set_ 0 _).set_ 1 _) (by decide) 2 _
      · repeat (first | with_reducible exact Below.refl _ _ | with_reducible assumption | with_reducible refine Below.setCell ?_ (by first | omega | (simp <;> omega)) _ | with_reducible refine Below.alloc ?_ (by first | omega | (simp <;> omega)) _ | with_reducible refine Below.drew ?_)
end Go.Proofs.YthjllledhcfnhaaDoor
