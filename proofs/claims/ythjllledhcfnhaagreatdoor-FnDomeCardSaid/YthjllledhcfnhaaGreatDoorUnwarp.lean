/- UnwarpPoint: the search of the reference and of the program. Conditions: the slice reads as spots. -/
import Derived.Test.YthjllledhcfnhaaGreatDoorMove
import Derived.Test.YthjllledhcfnhaaGreatDoorSearchMath
import Derived.Test.YthjllledhcfnhaaGreatDoorMesh
import Derived.Test.YthjllledhcfnhaaGreatDoorWarpMath
import Derived.Test.YthjllledhcfnhaaGreatDoorRoot
import Derived.Test.YthjllledhcfnhaaGreatDoorMinMax
import Derived.Test.YthjllledhcfnhaaGreatDoorAllocs
import Derived.Test.YthjllledhcfnhaaGreatDoorRound
import Derived.Test.YthjllledhcfnhaaGreatDoorAppendStep
import Derived.Test.YthjllledhcfnhaaGreatDoorTail
import Derived.IntWalk
import Derived.Deep.RegionHeld3
import Derived.Deep.DeepCutAuto
namespace Go.Proofs.YthjllledhcfnhaaGreatDoor
open Go.RowKit Go.Lib Go.Ks

/-- coordinates of the plane, shares of the unit -/
def Co (a : Int) : Prop := -2000000 ≤ a ∧ a ≤ 2000000
def Un (a : Int) : Prop := 0 ≤ a ∧ a ≤ 1000000
/-- the four corners of a cell, read -/
def Corners (w : World) (b off : Nat) (k c : Nat) (l : Nat → SpotD) : Prop :=
  ∀ q, (q = k ∨ q = k + 1 ∨ q = k + c ∨ q = k + c + 1) → w.cell? ⟨b, off + q * 2, none⟩ = some (.int .i64 (l q).f0) ∧ w.cell? ⟨b, off + q * 2 + 1, none⟩ = some (.int .i64 (l q).f1)
theorem corners_of {w : World} {b off n k c : Nat} {l : Nat → SpotD} (hc : ∀ j, j < n * 2 → w.cell? ⟨b, off + j, none⟩ = some (SpotC l j)) (h : k + c + 1 < n) : Corners w b off k c l := fun q hq => by
  have hq' : q < n := by omega
  constructor
  · rw [hc _ (by omega), SpotC0]
  · rw [Nat.add_assoc, hc _ (by omega), SpotC1]

theorem warp_fin {c r k : Nat} {l : Nat → SpotD} {u v I J : Int} (hk : warpK c r u v = (k : Int)) (hI : warpI c u = I) (hJ : warpI r v = J) :
    warpX c r l u v = mix (l k).f0 (l (k + 1)).f0 (l (k + c)).f0 (l (k + c + 1)).f0 (u * ((c : Int) - 1) - I * 1000000) (v * ((r : Int) - 1) - J * 1000000) ∧
    warpY c r l u v = mix (l k).f1 (l (k + 1)).f1 (l (k + c)).f1 (l (k + c + 1)).f1 (u * ((c : Int) - 1) - I * 1000000) (v * ((r : Int) - 1) - J * 1000000) := by
  unfold warpX warpY warpF
  rw [hk, hI, hJ, Int.toNat_natCast, Int.toNat_natCast]
  exact ⟨rfl, rfl⟩
end Go.Proofs.YthjllledhcfnhaaGreatDoor
namespace Go.Proofs.YthjllledhcfnhaaGreatDoor
open Go.RowKit Go.Lib Go.Ks

def spotG (u : Value) : Prop := ∃ x y : Int, u = .agg #[.int .i64 x, .int .i64 y]
def aggC : Value → Array Value | .agg c => c | _ => #[]
theorem allocSpot : AllocRun Tryz.prog 49 #[.int .i64 0, .int .i64 0] := fun w => by
  simp [go_sem, Instr.alloc]
theorem storeSpot : StoreRun Tryz.prog 49 #[.int .i64 0, .int .i64 0] spotG aggC := by
  rintro w B u ⟨x, y, rfl⟩ hb
  have h0 := hb.cell 0
  have h1 := hb.cell 1
  have g0 := hb.frozen 0
  have g1 := hb.frozen 1
  have hl := hb.lt
  simp at h0 h1
  refine ⟨(w.setCell ⟨B, 0, none⟩ (.int .i64 x)).setCell ⟨B, 1, none⟩ (.int .i64 y), ?_, by simp [World.setCell], fun base hbase => ?_, (hb.set_ 0 _).set_ 1 _, fun B' c hne hB => (hB.far (p := ⟨B, 0, none⟩) hne _).far (p := ⟨B, 1, none⟩) hne _⟩
  · simp [go_sem, Instr.storeAt, h0, h1, g0, g1]
  · exact (Below.setCell (Below.refl _ _) hbase _).setCell hbase _
end Go.Proofs.YthjllledhcfnhaaGreatDoor
namespace Go.Proofs.YthjllledhcfnhaaGreatDoor
open Go.RowKit Go.Lib Go.Ks

open Classical in
noncomputable def mWarpX (C R : Int) (n : Nat) (l : Nat → SpotD) (u v : Int) : Int := if MeshOk C R n l ∧ Un u ∧ Un v then warpX C R l u v else 0
open Classical in
noncomputable def mWarpY (C R : Int) (n : Nat) (l : Nat → SpotD) (u v : Int) : Int := if MeshOk C R n l ∧ Un u ∧ Un v then warpY C R l u v else 0
open Classical in
noncomputable def mWarpC (C R : Int) (n : Nat) (l : Nat → SpotD) (u v : Int) : Int := if MeshOk C R n l then (if Un u ∧ Un v then 0 else 2) else 1
section
variable {C R : Int} {n : Nat} {l : Nat → SpotD} {u v : Int}
theorem mWarp_no (h : ¬ MeshOk C R n l) : mWarpX C R n l u v = 0 ∧ mWarpY C R n l u v = 0 ∧ mWarpC C R n l u v = 1 := by
  unfold mWarpX mWarpY mWarpC
  exact ⟨if_neg (fun hh => h hh.1), if_neg (fun hh => h hh.1), if_neg h⟩
theorem mWarp_out (h : MeshOk C R n l) (h' : ¬ (Un u ∧ Un v)) : mWarpX C R n l u v = 0 ∧ mWarpY C R n l u v = 0 ∧ mWarpC C R n l u v = 2 := by
  unfold mWarpX mWarpY mWarpC
  exact ⟨if_neg (fun hh => h' hh.2), if_neg (fun hh => h' hh.2), by rw [if_pos h, if_neg h']⟩
theorem mWarp_ok (h : MeshOk C R n l) (h' : Un u ∧ Un v) : mWarpX C R n l u v = warpX C R l u v ∧ mWarpY C R n l u v = warpY C R l u v ∧ mWarpC C R n l u v = 0 := by
  unfold mWarpX mWarpY mWarpC
  exact ⟨if_pos ⟨h, h'⟩, if_pos ⟨h, h'⟩, by rw [if_pos h, if_pos h']⟩
end
theorem ret_spot {a a' b b' c c' : Int} (h : a = a') (h' : b = b') (h'' : c = c') : Ending.returned (.tuple #[.agg #[.int .i64 a, .int .i64 b], .int .i64 c]) = .returned (.tuple #[.agg #[.int .i64 a', .int .i64 b'], .int .i64 c']) := by rw [h, h', h'']

end Go.Proofs.YthjllledhcfnhaaGreatDoor
namespace Go.Proofs.YthjllledhcfnhaaGreatDoor
open Go.RowKit Go.Lib Go.Ks

/-- a spot of the plane -/
def Pl (x y : Int) : Prop := (-2000000 ≤ x ∧ x ≤ 2000000) ∧ (-2000000 ≤ y ∧ y ≤ 2000000)
def gmax (l m : Nat → SpotD) : Nat → Int
  | 0 => 0
  | k + 1 => max (gmax l m k) (gapS (l k).f0 (l k).f1 (m k).f0 (m k).f1)
theorem plane_pl {x y : Int} (h : plane x y = true) : Pl x y := plane_iff.1 h
theorem gap_of {l m : Nat → SpotD} {k : Nat} (h : Pl (l k).f0 (l k).f1) (h' : Pl (m k).f0 (m k).f1) : 0 ≤ gapS (l k).f0 (l k).f1 (m k).f0 (m k).f1 ∧ gapS (l k).f0 (l k).f1 (m k).f0 (m k).f1 ≤ 32000000000000 := by
  obtain ⟨⟨h1, h2⟩, h3, h4⟩ := h
  obtain ⟨⟨h5, h6⟩, h7, h8⟩ := h'
  exact (gapS_bd h1 h2 h3 h4 h5 h6 h7 h8).2.2
theorem gmax_bd {l m : Nat → SpotD} {n : Nat} (h : ∀ k, k < n → plane (l k).f0 (l k).f1 = true) (h' : ∀ k, k < n → plane (m k).f0 (m k).f1 = true) : ∀ k, k ≤ n → 0 ≤ gmax l m k ∧ gmax l m k ≤ 32000000000000
  | 0, _ => ⟨Int.le_refl _, by unfold gmax; omega⟩
  | k + 1, hk => by
    have h1 := gmax_bd h h' k (by omega)
    have h2 := gap_of (plane_pl (h k (by omega))) (plane_pl (h' k (by omega)))
    unfold gmax
    omega
open Classical in
noncomputable def mGreatestV (C R : Int) (n : Nat) (l : Nat → SpotD) (C' R' : Int) (n' : Nat) (m : Nat → SpotD) : Int := if MeshOk C R n l ∧ MeshOk C' R' n' m ∧ C = C' ∧ R = R' then iroot (gmax l m n) else 0
open Classical in
noncomputable def mGreatestC (C R : Int) (n : Nat) (l : Nat → SpotD) (C' R' : Int) (n' : Nat) (m : Nat → SpotD) : Int := if MeshOk C R n l ∧ MeshOk C' R' n' m then (if C = C' ∧ R = R' then 0 else 7) else 1
section
variable {C R C' R' : Int} {n n' : Nat} {l m : Nat → SpotD}
theorem mGreatest_no (h : ¬ (MeshOk C R n l ∧ MeshOk C' R' n' m)) : mGreatestV C R n l C' R' n' m = 0 ∧ mGreatestC C R n l C' R' n' m = 1 := by
  unfold mGreatestV mGreatestC
  exact ⟨if_neg (fun hh => h ⟨hh.1, hh.2.1⟩), if_neg h⟩
theorem mGreatest_odd (h : MeshOk C R n l ∧ MeshOk C' R' n' m) (hne : ¬ (C = C' ∧ R = R')) : mGreatestV C R n l C' R' n' m = 0 ∧ mGreatestC C R n l C' R' n' m = 7 := by
  unfold mGreatestV mGreatestC
  refine ⟨if_neg (fun hh => hne hh.2.2), ?_⟩
  rw [if_pos h, if_neg hne]
theorem mGreatest_ok (h : MeshOk C R n l ∧ MeshOk C' R' n' m) (he : C = C' ∧ R = R') : mGreatestV C R n l C' R' n' m = iroot (gmax l m n) ∧ mGreatestC C R n l C' R' n' m = 0 := by
  unfold mGreatestV mGreatestC
  rw [if_pos ⟨h.1, h.2, he⟩, if_pos h, if_pos he]
  exact ⟨rfl, rfl⟩
end

end Go.Proofs.YthjllledhcfnhaaGreatDoor
namespace Go.Proofs.YthjllledhcfnhaaGreatDoor
open Go.RowKit Go.Lib Go.Ks
theorem b_cases (b : Bool) : b = false ∨ b = true := by cases b <;> simp
/-- how far a point's place lies from a spot, squared -/
def gapF (C R : Int) (l : Nat → SpotD) (p q : Int) (u v : Int) : Int := gapS (warpX C R l u v) (warpY C R l u v) p q
section
variable {C R : Int} {n : Nat} {l : Nat → SpotD} {p q u v : Int}
theorem warp_pl (ok : MeshOk C R n l) (hu : Un u) (hv : Un v) : Pl (warpX C R l u v) (warpY C R l u v) := by
  obtain ⟨⟨hC1, hC2⟩, ⟨hR1, hR2⟩, hn, hpl⟩ := ok
  obtain ⟨hu1, hu2⟩ := hu
  obtain ⟨hv1, hv2⟩ := hv
  have k1 := warpK_bd hC1 hC2 hR1 hR2 hu1 hu2 hv1 hv2
  have f1 := warpF_bd hC1 hC2 hu1 hu2
  have f2 := warpF_bd hR1 hR2 hv1 hv2
  unfold warpX warpY
  generalize warpK C R u v = K at *
  generalize warpF C u = x at *
  generalize warpF R v = y at *
  have p1 := plane_pl (hpl K.toNat (by omega))
  have p2 := plane_pl (hpl (K.toNat + 1) (by omega))
  have p3 := plane_pl (hpl (K.toNat + C.toNat) (by omega))
  have p4 := plane_pl (hpl (K.toNat + C.toNat + 1) (by omega))
  obtain ⟨⟨a1, a2⟩, a3, a4⟩ := p1
  obtain ⟨⟨b1, b2⟩, b3, b4⟩ := p2
  obtain ⟨⟨c1, c2⟩, c3, c4⟩ := p3
  obtain ⟨⟨d1, d2⟩, d3, d4⟩ := p4
  exact ⟨mix_bd a1 a2 b1 b2 c1 c2 d1 d2 f1.1 f1.2 f2.1 f2.2, mix_bd a3 a4 b3 b4 c3 c4 d3 d4 f1.1 f1.2 f2.1 f2.2⟩
theorem gapF_ok (ok : MeshOk C R n l) (hp : Pl p q) : Fok (gapF C R l p q) := fun u v h => by
  obtain ⟨⟨a1, a2⟩, a3, a4⟩ := warp_pl (u := u) (v := v) ok h.1 h.2
  obtain ⟨⟨b1, b2⟩, b3, b4⟩ := hp
  exact (gapS_bd a1 a2 a3 a4 b1 b2 b3 b4).2.2
end
noncomputable def mUwOk (C R : Int) (n : Nat) (l : Nat → SpotD) (p q : Int) : Bool := meshOk C R n l && plane p q
noncomputable def mUwU (C R : Int) (n : Nat) (l : Nat → SpotD) (p q : Int) : Int := if mUwOk C R n l p q = true then (searchS (gapF C R l p q)).u else 0
noncomputable def mUwV (C R : Int) (n : Nat) (l : Nat → SpotD) (p q : Int) : Int := if mUwOk C R n l p q = true then (searchS (gapF C R l p q)).v else 0
noncomputable def mUwD (C R : Int) (n : Nat) (l : Nat → SpotD) (p q : Int) : Int := if mUwOk C R n l p q = true then iroot (searchS (gapF C R l p q)).d else 0
noncomputable def mUwC (C R : Int) (n : Nat) (l : Nat → SpotD) (p q : Int) : Int := if meshOk C R n l = true then (if plane p q = true then 0 else 2) else 1
section
variable {C R : Int} {n : Nat} {l : Nat → SpotD} {p q u v : Int}
theorem mUw_no (h : meshOk C R n l = false) : mUwU C R n l p q = 0 ∧ mUwV C R n l p q = 0 ∧ mUwD C R n l p q = 0 ∧ mUwC C R n l p q = 1 := by simp [mUwU, mUwV, mUwD, mUwC, mUwOk, h]
theorem mUw_out (h : meshOk C R n l = true) (h' : plane p q = false) : mUwU C R n l p q = 0 ∧ mUwV C R n l p q = 0 ∧ mUwD C R n l p q = 0 ∧ mUwC C R n l p q = 2 := by simp [mUwU, mUwV, mUwD, mUwC, mUwOk, h, h']
theorem mUw_ok (h : meshOk C R n l = true) (h' : plane p q = true) : mUwU C R n l p q = (searchS (gapF C R l p q)).u ∧ mUwV C R n l p q = (searchS (gapF C R l p q)).v ∧ mUwD C R n l p q = iroot (searchS (gapF C R l p q)).d ∧ mUwC C R n l p q = 0 := by simp [mUwU, mUwV, mUwD, mUwC, mUwOk, h, h']
end
theorem ret_tup4 {a a' b b' c c' d d' : Int} (h : a = a') (h' : b = b') (h'' : c = c') (h3 : d = d') : Ending.returned (.tuple #[.int .i64 a, .int .i64 b, .int .i64 c, .int .i64 d]) = .returned (.tuple #[.int .i64 a', .int .i64 b', .int .i64 c', .int .i64 d']) := by rw [h, h', h'', h3]
theorem results_t4 {fn : Func} {t u v x : Tmp} (h : fn.results = #[.tmp t, .tmp u, .tmp v, .tmp x]) (tmps : Array Value) (P : Program) (w : World) :
    (results fn tmps).run P w = .ok (.tuple #[tmps.getD t undef, tmps.getD u undef, tmps.getD v undef, tmps.getD x undef]) w := by
  simp [results, h]
/-- the cells of the reference's search -/
def seaC (mb : Nat) (p q : Int) (s : St) : Array Value := #[.pointer (some ⟨mb, 0, none⟩), .int .i64 p, .int .i64 q, .int .i64 s.u, .int .i64 s.v, .int .i64 s.d]
/-- the program's three variables -/
def ImpB (w : World) (b : Nat) (s : St) : Prop := Blk w b 2 #[.int .i64 s.u] ∧ Blk w (b + 1) 2 #[.int .i64 s.v] ∧ Blk w (b + 1 + 1) 2 #[.int .i64 s.d]
theorem ImpB.below {w w' : World} {b : Nat} {s : St} (h : ImpB w b s) (hb : Below w.heap.size w w') : ImpB w' b s := ⟨h.1.below hb h.1.lt, h.2.1.below hb h.2.1.lt, h.2.2.below hb h.2.2.lt⟩
theorem ImpB.put {w : World} {b : Nat} {s : St} (h : ImpB w b s) (u v d : Int) : ImpB (((w.setCell ⟨b, 0, none⟩ (.int .i64 u)).setCell ⟨b + 1, 0, none⟩ (.int .i64 v)).setCell ⟨b + 1 + 1, 0, none⟩ (.int .i64 d)) b ⟨u, v, d⟩ := by
  obtain ⟨h1, h2, h3⟩ := h
  exact ⟨((h1.set_ 0 _).far (p := ⟨b + 1, 0, none⟩) (by simp) _).far (p := ⟨b + 1 + 1, 0, none⟩) (by simp; omega) _,
    ((h2.far (p := ⟨b, 0, none⟩) (by simp) _).set_ 0 _).far (p := ⟨b + 1 + 1, 0, none⟩) (by simp) _,
    ((h3.far (p := ⟨b, 0, none⟩) (by simp; omega) _).far (p := ⟨b + 1, 0, none⟩) (by simp) _).set_ 0 _⟩
end Go.Proofs.YthjllledhcfnhaaGreatDoor
