/- UnwarpPoint: the search of the reference and of the program. Conditions: the slice reads as spots. -/
import Derived.Test.YtddcbieomklhnaaWarpPoint
import Derived.Test.YtddcbieomklhnaaGreatest
import Derived.Test.YtddcbieomklhnaaMove
import Derived.Test.YtddcbieomklhnaaSearchMath
namespace Go.Proofs.Ytddcbieomklhnaa
open Go.RowKit Go.Lib Go.Ks
theorem b_cases (b : Bool) : b = false ∨ b = true := by cases b <;> simp
/-- how far a point's place lies from a spot, squared -/
def gapF (C R : Int) (l : Nat → SpotD) (p q : Int) (u v : Int) : Int := gapS (warpX C R l u v) (warpY C R l u v) p q
section
variable {C R : Int} {n : Nat} {l : Nat → SpotD} {p q u v : Int}
theorem warp_pl (ok : MeshOk C R n l) (hu : Un u) (hv : Un v) : Pl (warpX C R l u v) (warpY C R l u v) := by
  obtain ⟨⟨hC1, hC2⟩, ⟨hR1, hR2⟩, hn, hpl⟩ := ok
  obtain ⟨hu1, hu2⟩ := hu
  obtain ⟨hv1, hv2⟩ := hv
  have k1 := warpK_bd hC1 hC2 hR1 hR2 hu1 hu2 hv1 hv2
  have f1 := warpF_bd hC1 hC2 hu1 hu2
  have f2 := warpF_bd hR1 hR2 hv1 hv2
  unfold warpX warpY
  generalize warpK C R u v = K at *
  generalize warpF C u = x at *
  generalize warpF R v = y at *
  have p1 := plane_pl (hpl K.toNat (by omega))
  have p2 := plane_pl (hpl (K.toNat + 1) (by omega))
  have p3 := plane_pl (hpl (K.toNat + C.toNat) (by omega))
  have p4 := plane_pl (hpl (K.toNat + C.toNat + 1) (by omega))
  obtain ⟨⟨a1, a2⟩, a3, a4⟩ := p1
  obtain ⟨⟨b1, b2⟩, b3, b4⟩ := p2
  obtain ⟨⟨c1, c2⟩, c3, c4⟩ := p3
  obtain ⟨⟨d1, d2⟩, d3, d4⟩ := p4
  exact ⟨mix_bd a1 a2 b1 b2 c1 c2 d1 d2 f1.1 f1.2 f2.1 f2.2, mix_bd a3 a4 b3 b4 c3 c4 d3 d4 f1.1 f1.2 f2.1 f2.2⟩
theorem gapF_ok (ok : MeshOk C R n l) (hp : Pl p q) : Fok (gapF C R l p q) := fun u v h => by
  obtain ⟨⟨a1, a2⟩, a3, a4⟩ := warp_pl (u := u) (v := v) ok h.1 h.2
  obtain ⟨⟨b1, b2⟩, b3, b4⟩ := hp
  exact (gapS_bd a1 a2 a3 a4 b1 b2 b3 b4).2.2
end
noncomputable def mUwOk (C R : Int) (n : Nat) (l : Nat → SpotD) (p q : Int) : Bool := meshOk C R n l && plane p q
noncomputable def mUwU (C R : Int) (n : Nat) (l : Nat → SpotD) (p q : Int) : Int := if mUwOk C R n l p q = true then (searchS (gapF C R l p q)).u else 0
noncomputable def mUwV (C R : Int) (n : Nat) (l : Nat → SpotD) (p q : Int) : Int := if mUwOk C R n l p q = true then (searchS (gapF C R l p q)).v else 0
noncomputable def mUwD (C R : Int) (n : Nat) (l : Nat → SpotD) (p q : Int) : Int := if mUwOk C R n l p q = true then iroot (searchS (gapF C R l p q)).d else 0
noncomputable def mUwC (C R : Int) (n : Nat) (l : Nat → SpotD) (p q : Int) : Int := if meshOk C R n l = true then (if plane p q = true then 0 else 2) else 1
section
variable {C R : Int} {n : Nat} {l : Nat → SpotD} {p q u v : Int}
theorem mUw_no (h : meshOk C R n l = false) : mUwU C R n l p q = 0 ∧ mUwV C R n l p q = 0 ∧ mUwD C R n l p q = 0 ∧ mUwC C R n l p q = 1 := by simp [mUwU, mUwV, mUwD, mUwC, mUwOk, h]
theorem mUw_out (h : meshOk C R n l = true) (h' : plane p q = false) : mUwU C R n l p q = 0 ∧ mUwV C R n l p q = 0 ∧ mUwD C R n l p q = 0 ∧ mUwC C R n l p q = 2 := by simp [mUwU, mUwV, mUwD, mUwC, mUwOk, h, h']
theorem mUw_ok (h : meshOk C R n l = true) (h' : plane p q = true) : mUwU C R n l p q = (searchS (gapF C R l p q)).u ∧ mUwV C R n l p q = (searchS (gapF C R l p q)).v ∧ mUwD C R n l p q = iroot (searchS (gapF C R l p q)).d ∧ mUwC C R n l p q = 0 := by simp [mUwU, mUwV, mUwD, mUwC, mUwOk, h, h']
end
theorem ret_tup4 {a a' b b' c c' d d' : Int} (h : a = a') (h' : b = b') (h'' : c = c') (h3 : d = d') : Ending.returned (.tuple #[.int .i64 a, .int .i64 b, .int .i64 c, .int .i64 d]) = .returned (.tuple #[.int .i64 a', .int .i64 b', .int .i64 c', .int .i64 d']) := by rw [h, h', h'', h3]
theorem results_t4 {fn : Func} {t u v x : Tmp} (h : fn.results = #[.tmp t, .tmp u, .tmp v, .tmp x]) (tmps : Array Value) (P : Program) (w : World) :
    (results fn tmps).run P w = .ok (.tuple #[tmps.getD t undef, tmps.getD u undef, tmps.getD v undef, tmps.getD x undef]) w := by
  simp [results, h]
/-- the cells of the reference's search -/
def seaC (mb : Nat) (p q : Int) (s : St) : Array Value := #[.pointer (some ⟨mb, 0, none⟩), .int .i64 p, .int .i64 q, .int .i64 s.u, .int .i64 s.v, .int .i64 s.d]
set_option maxRecDepth 100000 in
set_option maxHeartbeats 4000000 in
theorem try_any (w0 : World) (mb : Nat) (C R : Int) (A : Option Addr) (n cp : Nat) (l : Nat → SpotD) (p q : Int) (u v : Int) (s : St) (w : World) (ok : MeshOk C R n l) (hs : Sl w0 A (n * 2) (SpotC l)) (hm : MeshP w0 mb C R A n cp) (hp : Pl p q) (hst : StOk (gapF C R l p q) s)
    (hbl : Below w0.heap.size w0 w) (hx : Blk w w0.heap.size 88 (seaC mb p q s)) :
    Calls Try.prog 89 #[.pointer (some ⟨w0.heap.size, 0, none⟩), .int .i64 u, .int .i64 v] w fun e w' => e = .returned (.tuple #[]) ∧ Below w0.heap.size w0 w' ∧ Blk w' w0.heap.size 88 (seaC mb p q (tryS (gapF C R l p q) u v s)) := by
  have HS := Lib.hid (hs.below hbl)
  have HM := Lib.hid (hm.below hbl)
  have BD := hst.bd (gapF_ok ok hp)
  obtain ⟨⟨b1, b2⟩, ⟨b3, b4⟩, b5, b6⟩ := BD
  rcases b_cases (inB u 0 1000000) with q1 | q1
  · have E := tryS_out (f := gapF C R l p q) (u := u) (v := v) (s := s) (fun h => by rw [inB_iff.2 h.1] at q1; cases q1)
    rw [E]
    clear E
    go_enter Try.func89, Try.ntmps89
    go_wp2_with fail
    refine (l00In_eq _ _ _ _).mono ?_
    rintro e w1 ⟨rfl, rfl⟩
    go_wp2_with fail
    (try simp only [Exit.inBlock, Exit.then])
    first | refine bodyPost_end (results_none rfl _ _ _) rfl ?_ | refine bodyPost_ret (results_none rfl _ _ _) rfl ?_
    exact ⟨rfl, hbl, hx⟩
  rcases b_cases (inB v 0 1000000) with q2 | q2
  · have E := tryS_out (f := gapF C R l p q) (u := u) (v := v) (s := s) (fun h => by rw [inB_iff.2 h.2] at q2; cases q2)
    rw [E]
    clear E
    go_enter Try.func89, Try.ntmps89
    go_wp2_with fail
    refine (l00In_eq _ _ _ _).mono ?_
    rintro e w1 ⟨rfl, rfl⟩
    go_wp2_with fail
    refine (l00In_eq _ _ _ _).mono ?_
    rintro e w1 ⟨rfl, rfl⟩
    go_wp2_with fail
    (try simp only [Exit.inBlock, Exit.then])
    first | refine bodyPost_end (results_none rfl _ _ _) rfl ?_ | refine bodyPost_ret (results_none rfl _ _ _) rfl ?_
    exact ⟨rfl, hbl, hx⟩
  have hu := inB_iff.1 q1
  have hv := inB_iff.1 q2
  have EI := Lib.hid (tryS_in (f := gapF C R l p q) (s := s) (And.intro hu hv))
  have EN := Lib.hid (tryS_no (f := gapF C R l p q) (s := s) (And.intro hu hv))
  have HU := Lib.hid (And.intro hu hv)
  have HW := Lib.hid (warp_pl ok hu hv)
  have GB := gapF_ok ok hp u v ⟨hu, hv⟩
  obtain ⟨g1, g2⟩ := GB
  have OKH := Lib.hid ok
  have HP := Lib.hid hp
  obtain ⟨G, hG⟩ : ∃ G, gapF C R l p q u v = G := ⟨_, rfl⟩
  rw [hG] at EI EN g1 g2
  have HG := Lib.hid (show gapS (warpX C R l u v) (warpY C R l u v) p q = G from hG)
  clear hG hu hv ok hp hst
  unfold seaC at hx
  have c0 := hx.cell 0
  have c1 := hx.cell 1
  have c2 := hx.cell 2
  have c3 := hx.cell 3
  have c4 := hx.cell 4
  have c5 := hx.cell 5
  simp at c0 c1 c2 c3 c4 c5
  have cl := hx.lt
  have cg0 := hx.frozen 0
  have cg1 := hx.frozen 1
  have cg2 := hx.frozen 2
  have cg3 := hx.frozen 3
  have cg4 := hx.frozen 4
  have cg5 := hx.frozen 5
  by_cases a1 : s.d < 0
  · rw [EI.out (.inl a1)]
    go_enter Try.func89, Try.ntmps89
    go_wp2_with fail
    refine (l00In_eq _ _ _ _).mono ?_
    rintro e w1 ⟨rfl, rfl⟩
    go_wp2_with fail
    refine (l00In_eq _ _ _ _).mono ?_
    rintro e w1 ⟨rfl, rfl⟩
    go_wp2_with fail
    clear q1 q2
    refine wp_region_ext (by kernel_rfl) (by kernel_rfl) ?_
    repeat (go_big_quiet_step ((first | (go_at_call 66; exact quiet_ext (l11Warp_any _ C R _ n cp l u v _ OKH.out (HS.out.below (ExtW.below _)) (HM.out.below (ExtW.below _)) HU.out.1 HU.out.2)) | (go_at_call 75; exact quiet_ext (l11Far_any _ _ p q HW.out HP.out _)))))
    refine wpQuiet_nil ?_
    intro e1
    have hb2 := hbl.trans (e1.below.mono hbl.size)
    have hx2 := hx.below e1.below hx.lt
    clear c0 c1 c2 c3 c4 c5 cl cg0 cg1 cg2 cg3 cg4 cg5
    have d0 := hx2.cell 0
    have d1 := hx2.cell 1
    have d2 := hx2.cell 2
    have d3 := hx2.cell 3
    have d4 := hx2.cell 4
    have d5 := hx2.cell 5
    simp at d0 d1 d2 d3 d4 d5
    have dl := hx2.lt
    have dg0 := hx2.frozen 0
    have dg1 := hx2.frozen 1
    have dg2 := hx2.frozen 2
    have dg3 := hx2.frozen 3
    have dg4 := hx2.frozen 4
    have dg5 := hx2.frozen 5
    rw [HG.out]
    go_wp2_with fail
    (try simp only [Exit.inBlock, Exit.then])
    first | refine bodyPost_end (results_none rfl _ _ _) rfl ?_ | refine bodyPost_ret (results_none rfl _ _ _) rfl ?_
    exact ⟨rfl, ((hb2.setCell (Nat.le_refl _) _).setCell (Nat.le_refl _) _).setCell (Nat.le_refl _) _, ((hx2.set_ 3 _).set_ 4 _).set_ 5 _⟩
  by_cases a2 : G < s.d
  · rw [EI.out (.inr a2)]
    go_enter Try.func89, Try.ntmps89
    go_wp2_with fail
    refine (l00In_eq _ _ _ _).mono ?_
    rintro e w1 ⟨rfl, rfl⟩
    go_wp2_with fail
    refine (l00In_eq _ _ _ _).mono ?_
    rintro e w1 ⟨rfl, rfl⟩
    go_wp2_with fail
    clear q1 q2
    refine wp_region_ext (by kernel_rfl) (by kernel_rfl) ?_
    repeat (go_big_quiet_step ((first | (go_at_call 66; exact quiet_ext (l11Warp_any _ C R _ n cp l u v _ OKH.out (HS.out.below (ExtW.below _)) (HM.out.below (ExtW.below _)) HU.out.1 HU.out.2)) | (go_at_call 75; exact quiet_ext (l11Far_any _ _ p q HW.out HP.out _)))))
    refine wpQuiet_nil ?_
    intro e1
    have hb2 := hbl.trans (e1.below.mono hbl.size)
    have hx2 := hx.below e1.below hx.lt
    clear c0 c1 c2 c3 c4 c5 cl cg0 cg1 cg2 cg3 cg4 cg5
    have d0 := hx2.cell 0
    have d1 := hx2.cell 1
    have d2 := hx2.cell 2
    have d3 := hx2.cell 3
    have d4 := hx2.cell 4
    have d5 := hx2.cell 5
    simp at d0 d1 d2 d3 d4 d5
    have dl := hx2.lt
    have dg0 := hx2.frozen 0
    have dg1 := hx2.frozen 1
    have dg2 := hx2.frozen 2
    have dg3 := hx2.frozen 3
    have dg4 := hx2.frozen 4
    have dg5 := hx2.frozen 5
    rw [HG.out]
    go_wp2_with fail
    (try simp only [Exit.inBlock, Exit.then])
    first | refine bodyPost_end (results_none rfl _ _ _) rfl ?_ | refine bodyPost_ret (results_none rfl _ _ _) rfl ?_
    exact ⟨rfl, ((hb2.setCell (Nat.le_refl _) _).setCell (Nat.le_refl _) _).setCell (Nat.le_refl _) _, ((hx2.set_ 3 _).set_ 4 _).set_ 5 _⟩
  · rw [EN.out (fun h => h.elim a1 a2)]
    go_enter Try.func89, Try.ntmps89
    go_wp2_with fail
    refine (l00In_eq _ _ _ _).mono ?_
    rintro e w1 ⟨rfl, rfl⟩
    go_wp2_with fail
    refine (l00In_eq _ _ _ _).mono ?_
    rintro e w1 ⟨rfl, rfl⟩
    go_wp2_with fail
    clear q1 q2
    refine wp_region_ext (by kernel_rfl) (by kernel_rfl) ?_
    repeat (go_big_quiet_step ((first | (go_at_call 66; exact quiet_ext (l11Warp_any _ C R _ n cp l u v _ OKH.out (HS.out.below (ExtW.below _)) (HM.out.below (ExtW.below _)) HU.out.1 HU.out.2)) | (go_at_call 75; exact quiet_ext (l11Far_any _ _ p q HW.out HP.out _)))))
    refine wpQuiet_nil ?_
    intro e1
    have hb2 := hbl.trans (e1.below.mono hbl.size)
    have hx2 := hx.below e1.below hx.lt
    clear c0 c1 c2 c3 c4 c5 cl cg0 cg1 cg2 cg3 cg4 cg5
    have d0 := hx2.cell 0
    have d1 := hx2.cell 1
    have d2 := hx2.cell 2
    have d3 := hx2.cell 3
    have d4 := hx2.cell 4
    have d5 := hx2.cell 5
    simp at d0 d1 d2 d3 d4 d5
    have dl := hx2.lt
    have dg0 := hx2.frozen 0
    have dg1 := hx2.frozen 1
    have dg2 := hx2.frozen 2
    have dg3 := hx2.frozen 3
    have dg4 := hx2.frozen 4
    have dg5 := hx2.frozen 5
    rw [HG.out]
    go_wp2_with fail
    (try simp only [Exit.inBlock, Exit.then])
    first | refine bodyPost_end (results_none rfl _ _ _) rfl ?_ | refine bodyPost_ret (results_none rfl _ _ _) rfl ?_
    exact ⟨rfl, hb2, hx2⟩
set_option maxRecDepth 100000 in
set_option maxHeartbeats 4000000 in
theorem run_any (w0 : World) (mb : Nat) (C R : Int) (A : Option Addr) (n cp : Nat) (l : Nat → SpotD) (p q : Int) (w : World) (ok : MeshOk C R n l) (hs : Sl w0 A (n * 2) (SpotC l)) (hm : MeshP w0 mb C R A n cp) (hp : Pl p q)
    (hbl : Below w0.heap.size w0 w) (hx : Blk w w0.heap.size 88 (seaC mb p q ⟨0, 0, -1⟩)) :
    Calls Try.prog 79 #[.pointer (some ⟨w0.heap.size, 0, none⟩)] w fun e w' => e = .returned (.tuple #[]) ∧ Below w0.heap.size w0 w' ∧ Blk w' w0.heap.size 88 (seaC mb p q (searchS (gapF C R l p q))) := by
  have TRY := fun (u v : Int) (s : St) (W : World) h1 h2 h3 => try_any w0 mb C R A n cp l p q u v s W ok hs hm hp h1 h2 h3
  have FOK := Lib.hid (gapF_ok ok hp)
  clear ok hs hm hp
  generalize gapF C R l p q = F at *
  have HT := Lib.hid TRY
  clear TRY
  go_enter Try.func79, Try.ntmps79
  go_wp2_with fail
  go_loopw [2] (fun j wr => ∃ J : Nat, J ≤ 17 ∧ j = .int .i64 (J : Int) ∧ Below w0.heap.size w0 wr ∧ Blk wr w0.heap.size 88 (seaC mb p q (gridS F J))) (fun j _ => 17 - (intOf j).toNat)
  case atStart => exact ⟨0, by omega, rfl, hbl, hx⟩
  case round =>
    obtain ⟨J, hJ, rfl, hbl, hx⟩ := hrel
    by_cases hlt : J < 17
    · have hlt' : (J : Int) ≤ 16 := by omega
      go_wp2_with fail
      obtain ⟨wo, rfl⟩ : ∃ wo : World, wo = wr := ⟨_, rfl⟩
      clear hlt'
      go_loopw [3] (fun i wr => ∃ I : Nat, I ≤ 17 ∧ i = .int .i64 (I : Int) ∧ Below w0.heap.size w0 wr ∧ Blk wr w0.heap.size 88 (seaC mb p q (rowS F J I (gridS F J)))) (fun i _ => 17 - (intOf i).toNat)
      case atStart => exact ⟨0, by omega, rfl, hbl, hx⟩
      case round =>
        obtain ⟨I, hI, rfl, hbl, hx⟩ := hrel
        by_cases hlt2 : I < 17
        · have hlt2' : (I : Int) ≤ 16 := by omega
          go_wp2_with fail
          refine (HT.out (62500 * (I : Int)) (62500 * (J : Int)) _ _ ((StOk.grid J).row J I) hbl hx).mono ?_
          rintro e w5 ⟨rfl, hb5, hx5⟩
          go_wp2_with fail
          go_roundw
          case rel => exact ⟨I + 1, by omega, by go_num, hb5, hx5⟩
          case measure => simp [intOf]; omega
        · obtain rfl : I = 17 := by omega
          go_wp2_with fail
          go_roundw
          case rel => exact ⟨J + 1, by omega, by go_num, hbl, hx⟩
          case measure => simp [intOf]; omega
    · have hJ17 : J = 17 := by omega
      have hJn : ¬ (J : Int) ≤ 16 := by omega
      have hok17 := StOk.grid (f := F) J
      have hfin17 : finS F 31250 (gridS F J) = searchS F := by rw [hJ17]; rfl
      have HF17 := Lib.hid hfin17
      clear hJ17 hfin17
      go_wp2_with fail
      obtain ⟨wo, rfl⟩ : ∃ wo : World, wo = wr := ⟨_, rfl⟩
      clear hJn hlt
      go_loopw [4] (fun a wr => ∃ (s : Nat) (st : St), s ≤ 31250 ∧ a = .int .i64 (s : Int) ∧ StOk F st ∧ finS F s st = searchS F ∧ Below w0.heap.size w0 wr ∧ Blk wr w0.heap.size 88 (seaC mb p q st)) (fun a _ => (intOf a).toNat)
      case atStart => exact ⟨31250, _, by omega, rfl, hok17, HF17.out, hbl, hx⟩
      case round =>
        obtain ⟨s, st, hs, rfl, hok, hfin, hbl, hx⟩ := hrel
        have HFIN := Lib.hid hfin
        clear hfin
        by_cases h0 : 0 < s
        · have h0' : (0 : Int) < (s : Int) := by omega
          go_wp2_with fail
          obtain ⟨wo, rfl⟩ : ∃ wo : World, wo = wr := ⟨_, rfl⟩
          clear h0'
          go_loopw [5] (fun r wr => ∃ k : Nat, k ≤ 2 ∧ r = .int .i64 (k : Int) ∧ Below w0.heap.size w0 wr ∧ Blk wr w0.heap.size 88 (seaC mb p q (roundsS F (s : Int) k st))) (fun r _ => 2 - (intOf r).toNat)
          case atStart => exact ⟨0, by omega, rfl, hbl, hx⟩
          case round =>
            obtain ⟨k, hk, rfl, hbl, hx⟩ := hrel
            by_cases hk2 : k < 2
            · have hk2' : (k : Int) < 2 := by omega
              have hok2 := StOk.rounds hok (s : Int) k
              have hst : roundsS F (s : Int) (k + 1) st = nbS F (roundsS F (s : Int) k st).u (roundsS F (s : Int) k st).v (s : Int) 3 (roundsS F (s : Int) k st) := rfl
              obtain ⟨S, hS⟩ : ∃ S, roundsS F (s : Int) k st = S := ⟨_, rfl⟩
              rw [hS] at hok2 hst hx
              have HST := Lib.hid hst
              clear hst hS
              have BD := hok2.bd FOK.out
              obtain ⟨⟨u1, u2⟩, ⟨v1, v2⟩, _, _⟩ := BD
              have hx' : Blk wr w0.heap.size 88 #[.pointer (some ⟨mb, 0, none⟩), .int .i64 p, .int .i64 q, .int .i64 S.u, .int .i64 S.v, .int .i64 S.d] := hx
              have c0 := hx'.cell 0
              have c1 := hx'.cell 1
              have c2 := hx'.cell 2
              have c3 := hx'.cell 3
              have c4 := hx'.cell 4
              have c5 := hx'.cell 5
              simp at c0 c1 c2 c3 c4 c5
              have cl := hx'.lt
              go_wp2_with fail
              obtain ⟨wo, rfl⟩ : ∃ wo : World, wo = wr := ⟨_, rfl⟩
              clear c0 c1 c2 c3 c4 c5 cl hx' hk2'
              go_loopw [8] (fun b wr => ∃ B : Nat, B ≤ 3 ∧ b = .int .i64 ((B : Int) - 1) ∧ Below w0.heap.size w0 wr ∧ Blk wr w0.heap.size 88 (seaC mb p q (nbS F S.u S.v (s : Int) B S))) (fun b _ => (2 - intOf b).toNat)
              case atStart => exact ⟨0, by omega, rfl, hbl, hx⟩
              case round =>
                obtain ⟨B, hB, rfl, hbl, hx⟩ := hrel
                by_cases hB3 : B < 3
                · have hB3' : (B : Int) - 1 ≤ 1 := by omega
                  have mb1 := mul_bd (a := (B : Int) - 1) (b := (s : Int)) (m := 1) (n := 31250) (by omega) (by omega) (by omega) (by omega) (by omega)
                  obtain ⟨m1, m2⟩ := mb1
                  go_wp2_with fail
                  obtain ⟨wo, rfl⟩ : ∃ wo : World, wo = wr := ⟨_, rfl⟩
                  clear hB3'
                  go_loopw [9] (fun a wr => ∃ I : Nat, I ≤ 3 ∧ a = .int .i64 ((I : Int) - 1) ∧ Below w0.heap.size w0 wr ∧ Blk wr w0.heap.size 88 (seaC mb p q (nbRow F S.u S.v (s : Int) ((B : Int) - 1) I (nbS F S.u S.v (s : Int) B S)))) (fun a _ => (2 - intOf a).toNat)
                  case atStart => exact ⟨0, by omega, rfl, hbl, hx⟩
                  case round =>
                    obtain ⟨I, hI, rfl, hbl, hx⟩ := hrel
                    by_cases hI3 : I < 3
                    · have hI3' : (I : Int) - 1 ≤ 1 := by omega
                      have mb2 := mul_bd (a := (I : Int) - 1) (b := (s : Int)) (m := 1) (n := 31250) (by omega) (by omega) (by omega) (by omega) (by omega)
                      obtain ⟨m3, m4⟩ := mb2
                      go_wp2_with fail
                      refine (HT.out (S.u + ((I : Int) - 1) * (s : Int)) (S.v + ((B : Int) - 1) * (s : Int)) _ _ ((hok2.nb S.u S.v (s : Int) B).nbr S.u S.v (s : Int) ((B : Int) - 1) I) hbl hx).mono ?_
                      rintro e w5 ⟨rfl, hb5, hx5⟩
                      go_wp2_with fail
                      go_roundw
                      case rel => exact ⟨I + 1, by omega, ret_num (by omega), hb5, hx5⟩
                      case measure => simp [intOf]; omega
                    · obtain rfl : I = 3 := by omega
                      go_wp2_with fail
                      go_roundw
                      case rel => exact ⟨B + 1, by omega, ret_num (by omega), hbl, hx⟩
                      case measure => simp [intOf]; omega
                · obtain rfl : B = 3 := by omega
                  go_wp2_with fail
                  go_roundw
                  case rel => exact ⟨k + 1, by omega, by go_num, hbl, by rw [HST.out]; exact hx⟩
                  case measure => simp [intOf]; omega
            · obtain rfl : k = 2 := by omega
              go_wp2_with fail
              go_roundw
              case rel => exact ⟨s / 2, _, by omega, by go_num, StOk.rounds hok (s : Int) 2, by rw [← HFIN.out, finS_pos h0], hbl, hx⟩
              case measure => simp [intOf]; omega
        · obtain rfl : s = 0 := by omega
          have E := HFIN.out
          rw [finS_zero] at E
          subst E
          go_wp2_with fail
          (try simp only [Exit.inBlock, Exit.then])
          first | refine bodyPost_end (results_none rfl _ _ _) rfl ?_ | refine bodyPost_ret (results_none rfl _ _ _) rfl ?_
          exact ⟨rfl, hbl, hx⟩
set_option maxRecDepth 100000 in
set_option maxHeartbeats 4000000 in
theorem specUnwarpPoint_any (C R : Int) (A : Option Addr) (n c : Nat) (l : Nat → SpotD) (p q : Int) (w : World) (hn : n ≤ 1048576) (hs : Sl w A (n * 2) (SpotC l)) (_hg : ∀ k, k < n → SpotOk (l k)) (_hp : -9223372036854775808 ≤ p ∧ p ≤ 9223372036854775807) (_hq : -9223372036854775808 ≤ q ∧ q ≤ 9223372036854775807) :
    Calls Try.prog 45 #[.agg #[.int .i64 C, .int .i64 R, .slice A n c], .agg #[.int .i64 p, .int .i64 q]] w fun e w' => e = .returned (.tuple #[.int .i64 (mUwU C R n l p q), .int .i64 (mUwV C R n l p q), .int .i64 (mUwD C R n l p q), .int .i64 (mUwC C R n l p q)]) ∧ Below w.heap.size w w' := by
  go_enter Try.func45, Try.ntmps45
  go_wp2_with fail
  generalize hW : World.alloc (World.alloc w _) _ = w1
  have hb1 : Below w.heap.size w w1 := by rw [← hW]; repeat (first | with_reducible exact Below.refl _ _ | with_reducible assumption | with_reducible refine Below.setCell ?_ (by simp <;> omega) _ | with_reducible refine Below.alloc ?_ (by simp <;> omega) _ | with_reducible refine Below.drew ?_)
  have x0 : Blk w1 w.heap.size 29 #[.int .i64 C, .int .i64 R, .slice A n c] := by rw [← hW]; exact (Blk.new w _ _).alloc _
  have x1 : Blk w1 (w.heap.size + 1) 39 #[.int .i64 p, .int .i64 q] := by
    have h := Blk.new (w.alloc (.cells #[.int .i64 C, .int .i64 R, .slice A n c] 29)) 39 #[.int .i64 p, .int .i64 q]
    rw [hW] at h
    simpa using h
  clear hW
  have a0 := x0.cell 0
  have a1 := x0.cell 1
  have a2 := x0.cell 2
  simp at a0 a1 a2
  have al := x0.lt
  refine (l11Ok_any _ C R _ n c l _ hn (hs.below hb1) ⟨x0.lt, x0.cell 0, x0.cell 1, x0.cell 2⟩).mono ?_
  rintro e w2 ⟨rfl, hb2⟩
  have hbw2 := hb1.trans (hb2.mono hb1.size)
  have y1 := x1.below hb2 x1.lt
  have y0 := x0.below hb2 x0.lt
  clear a0 a1 a2 al
  rcases b_cases (meshOk C R n l) with ok | ok
  · have E := Lib.hid (mUw_no (p := p) (q := q) ok)
    rw [ok]
    go_wp2_with fail
    (try simp only [Exit.inBlock, Exit.then])
    refine bodyPost_ret (results_t4 rfl _ _ _) rfl ?_
    exact ⟨ret_tup4 E.out.1.symm E.out.2.1.symm E.out.2.2.1.symm E.out.2.2.2.symm, hbw2⟩
  have z0 := y1.cell 0
  have z1 := y1.cell 1
  simp at z0 z1
  have zl := y1.lt
  rw [ok]
  go_wp2_with fail
  refine (l11Spot_any _ _ _).mono ?_
  rintro e w3 ⟨rfl, hb3⟩
  have hbw3 := hbw2.trans (hb3.mono hbw2.size)
  have x0 := y0.below hb3 y0.lt
  have x1 := y1.below hb3 y1.lt
  clear z0 z1 zl
  rcases b_cases (plane p q) with pq | pq
  · have E := Lib.hid (mUw_out ok pq)
    rw [pq]
    go_wp2_with fail
    (try simp only [Exit.inBlock, Exit.then])
    refine bodyPost_ret (results_t4 rfl _ _ _) rfl ?_
    exact ⟨ret_tup4 E.out.1.symm E.out.2.1.symm E.out.2.2.1.symm E.out.2.2.2.symm, hbw3⟩
  have E := Lib.hid (mUw_ok ok pq)
  have OK := Lib.hid (meshOk_of ok)
  have PQ := Lib.hid (plane_pl pq)
  have SD := search_at (gapF_ok OK.out PQ.out)
  have FD := gapF_ok OK.out PQ.out _ _ SD.1
  rw [← SD.2] at FD
  have z0 := x1.cell 0
  have z1 := x1.cell 1
  simp at z0 z1
  have zl := x1.lt
  rw [pq]
  clear ok pq SD
  go_wp2_with fail
  generalize hV : World.alloc w3 _ = w4
  have h4 : Below w3.heap.size w3 w4 := by rw [← hV]; exact (Below.refl _ _).alloc (Nat.le_refl _) _
  have v4 : Blk w4 w3.heap.size 88 (seaC w.heap.size p q ⟨0, 0, -1⟩) := by rw [← hV]; exact Blk.new w3 _ _
  clear hV z0 z1 zl
  refine (run_any w3 w.heap.size C R _ n c l p q w4 OK.out (hs.below hbw3) ⟨x0.lt, x0.cell 0, x0.cell 1, x0.cell 2⟩ PQ.out h4 v4).mono ?_
  rintro e w5 ⟨rfl, h5, v5⟩
  have HB5 := hbw3.trans (h5.mono hbw3.size)
  obtain ⟨S, hS⟩ : ∃ S, searchS (gapF C R l p q) = S := ⟨_, rfl⟩
  rw [hS] at v5 FD E
  obtain ⟨f1, f2⟩ := FD
  clear hS
  unfold seaC at v5
  have d0 := v5.cell 0
  have d1 := v5.cell 1
  have d2 := v5.cell 2
  have d3 := v5.cell 3
  have d4 := v5.cell 4
  have d5 := v5.cell 5
  simp at d0 d1 d2 d3 d4 d5
  have dl := v5.lt
  go_wp2_with fail
  refine wp_region_ext (by kernel_rfl) (by kernel_rfl) ?_
  repeat (go_big_quiet_step ((first | (go_at_call 76; exact quiet_ext ((l01Root_eq S.d (by omega) _).mono fun _ _ h => ⟨h.1, h.2 ▸ Below.refl _ _⟩)))))
  refine wpQuiet_nil ?_
  intro e1
  have HB6 := HB5.trans (e1.below.mono HB5.size)
  go_wp2_with fail
  (try simp only [Exit.inBlock, Exit.then])
  refine bodyPost_ret (results_t4 rfl _ _ _) rfl ?_
  exact ⟨ret_tup4 E.out.1.symm E.out.2.1.symm E.out.2.2.1.symm E.out.2.2.2.symm, HB6⟩
/-- the program's three variables -/
def ImpB (w : World) (b : Nat) (s : St) : Prop := Blk w b 2 #[.int .i64 s.u] ∧ Blk w (b + 1) 2 #[.int .i64 s.v] ∧ Blk w (b + 1 + 1) 2 #[.int .i64 s.d]
theorem ImpB.below {w w' : World} {b : Nat} {s : St} (h : ImpB w b s) (hb : Below w.heap.size w w') : ImpB w' b s := ⟨h.1.below hb h.1.lt, h.2.1.below hb h.2.1.lt, h.2.2.below hb h.2.2.lt⟩
theorem ImpB.put {w : World} {b : Nat} {s : St} (h : ImpB w b s) (u v d : Int) : ImpB (((w.setCell ⟨b, 0, none⟩ (.int .i64 u)).setCell ⟨b + 1, 0, none⟩ (.int .i64 v)).setCell ⟨b + 1 + 1, 0, none⟩ (.int .i64 d)) b ⟨u, v, d⟩ := by
  obtain ⟨h1, h2, h3⟩ := h
  exact ⟨((h1.set_ 0 _).far (p := ⟨b + 1, 0, none⟩) (by simp) _).far (p := ⟨b + 1 + 1, 0, none⟩) (by simp; omega) _,
    ((h2.far (p := ⟨b, 0, none⟩) (by simp) _).set_ 0 _).far (p := ⟨b + 1 + 1, 0, none⟩) (by simp) _,
    ((h3.far (p := ⟨b, 0, none⟩) (by simp; omega) _).far (p := ⟨b + 1, 0, none⟩) (by simp) _).set_ 0 _⟩
set_option maxRecDepth 100000 in
set_option maxHeartbeats 4000000 in
theorem try2_any (w0 : World) (mb pb : Nat) (C R : Int) (A : Option Addr) (n cp : Nat) (l : Nat → SpotD) (p q : Int) (u v : Int) (s : St) (w : World) (ok : MeshOk C R n l) (hs : Sl w0 A (n * 2) (SpotC l)) (hm : Blk w0 mb 29 #[.int .i64 C, .int .i64 R, .slice A n cp]) (hpb : Blk w0 pb 39 #[.int .i64 p, .int .i64 q]) (hp : Pl p q) (hst : StOk (gapF C R l p q) s)
    (hbl : Below w0.heap.size w0 w) (hx : ImpB w w0.heap.size s) :
    Calls Try.prog 80 #[.int .i64 u, .int .i64 v, .pointer (some ⟨mb, 0, none⟩), .pointer (some ⟨pb, 0, none⟩), .pointer (some ⟨w0.heap.size + 1 + 1, 0, none⟩), .pointer (some ⟨w0.heap.size, 0, none⟩), .pointer (some ⟨w0.heap.size + 1, 0, none⟩)] w fun e w' => e = .returned (.tuple #[]) ∧ Below w0.heap.size w0 w' ∧ ImpB w' w0.heap.size (tryS (gapF C R l p q) u v s) := by
  have HS := Lib.hid (hs.below hbl)
  have hm1 := hm.below hbl hm.lt
  have hp1 := hpb.below hbl hpb.lt
  have BD := hst.bd (gapF_ok ok hp)
  obtain ⟨⟨b1, b2⟩, ⟨b3, b4⟩, b5, b6⟩ := BD
  rcases b_cases (inB u 0 1000000) with q1 | q1
  · have E := tryS_out (f := gapF C R l p q) (u := u) (v := v) (s := s) (fun h => by rw [inB_iff.2 h.1] at q1; cases q1)
    rw [E]
    clear E
    go_enter Try.func80, Try.ntmps80
    go_wp2_with fail
    refine (within_eq _ _ _ _).mono ?_
    rintro e w1 ⟨rfl, rfl⟩
    go_wp2_with fail
    (try simp only [Exit.inBlock, Exit.then])
    first | refine bodyPost_end (results_none rfl _ _ _) rfl ?_ | refine bodyPost_ret (results_none rfl _ _ _) rfl ?_
    exact ⟨rfl, hbl, hx⟩
  rcases b_cases (inB v 0 1000000) with q2 | q2
  · have E := tryS_out (f := gapF C R l p q) (u := u) (v := v) (s := s) (fun h => by rw [inB_iff.2 h.2] at q2; cases q2)
    rw [E]
    clear E
    go_enter Try.func80, Try.ntmps80
    go_wp2_with fail
    refine (within_eq _ _ _ _).mono ?_
    rintro e w1 ⟨rfl, rfl⟩
    go_wp2_with fail
    refine (within_eq _ _ _ _).mono ?_
    rintro e w1 ⟨rfl, rfl⟩
    go_wp2_with fail
    (try simp only [Exit.inBlock, Exit.then])
    first | refine bodyPost_end (results_none rfl _ _ _) rfl ?_ | refine bodyPost_ret (results_none rfl _ _ _) rfl ?_
    exact ⟨rfl, hbl, hx⟩
  have hu := inB_iff.1 q1
  have hv := inB_iff.1 q2
  have EI := Lib.hid (tryS_in (f := gapF C R l p q) (s := s) (And.intro hu hv))
  have EN := Lib.hid (tryS_no (f := gapF C R l p q) (s := s) (And.intro hu hv))
  have HU := Lib.hid (And.intro hu hv)
  have HW := Lib.hid (warp_pl ok hu hv)
  have GB := gapF_ok ok hp u v ⟨hu, hv⟩
  obtain ⟨g1, g2⟩ := GB
  have OKH := Lib.hid ok
  have HP := Lib.hid hp
  obtain ⟨G, hG⟩ : ∃ G, gapF C R l p q u v = G := ⟨_, rfl⟩
  rw [hG] at EI EN g1 g2
  have HG := Lib.hid (show gapS (warpX C R l u v) (warpY C R l u v) p q = G from hG)
  clear hG hu hv ok hp hst
  have m0 := hm1.cell 0
  have m1 := hm1.cell 1
  have m2 := hm1.cell 2
  simp at m0 m1 m2
  have ml := hm1.lt
  have k0 := hp1.cell 0
  have k1 := hp1.cell 1
  simp at k0 k1
  have kl := hp1.lt
  by_cases a1 : s.d < 0
  · rw [EI.out (.inl a1)]
    go_enter Try.func80, Try.ntmps80
    go_wp2_with fail
    refine (within_eq _ _ _ _).mono ?_
    rintro e w1 ⟨rfl, rfl⟩
    go_wp2_with fail
    refine (within_eq _ _ _ _).mono ?_
    rintro e w1 ⟨rfl, rfl⟩
    go_wp2_with fail
    clear q1 q2
    refine wp_region_ext (by kernel_rfl) (by kernel_rfl) ?_
    repeat (go_big_quiet_step ((first | (go_at_call 67; exact quiet_ext (warp_any C R _ n cp l u v _ OKH.out (HS.out.below (ExtW.below _)) HU.out.1 HU.out.2)) | (go_at_call 77; exact quiet_ext (spotGap_any _ _ p q HW.out HP.out _)))))
    refine wpQuiet_nil ?_
    intro e1
    have hb2 := hbl.trans (e1.below.mono hbl.size)
    have hx2 := hx.below e1.below
    have X0 := hx2.1
    have X1 := hx2.2.1
    have X2 := hx2.2.2
    clear m0 m1 m2 ml k0 k1 kl
    have c0 := X0.cell 0
    simp at c0
    have cl := X0.lt
    have d0 := X1.cell 0
    simp at d0
    have dl := X1.lt
    have f0 := X2.cell 0
    simp at f0
    have fl := X2.lt
    have cg0 := X0.frozen 0
    have dg0 := X1.frozen 0
    have fg0 := X2.frozen 0
    rw [HG.out]
    go_wp2_with fail
    (try simp only [Exit.inBlock, Exit.then])
    first | refine bodyPost_end (results_none rfl _ _ _) rfl ?_ | refine bodyPost_ret (results_none rfl _ _ _) rfl ?_
    exact ⟨rfl, ((hb2.setCell (Nat.le_refl _) _).setCell (Nat.le_succ _) _).setCell (by simp; omega) _, hx2.put _ _ _⟩
  by_cases a2 : G < s.d
  · rw [EI.out (.inr a2)]
    go_enter Try.func80, Try.ntmps80
    go_wp2_with fail
    refine (within_eq _ _ _ _).mono ?_
    rintro e w1 ⟨rfl, rfl⟩
    go_wp2_with fail
    refine (within_eq _ _ _ _).mono ?_
    rintro e w1 ⟨rfl, rfl⟩
    go_wp2_with fail
    clear q1 q2
    refine wp_region_ext (by kernel_rfl) (by kernel_rfl) ?_
    repeat (go_big_quiet_step ((first | (go_at_call 67; exact quiet_ext (warp_any C R _ n cp l u v _ OKH.out (HS.out.below (ExtW.below _)) HU.out.1 HU.out.2)) | (go_at_call 77; exact quiet_ext (spotGap_any _ _ p q HW.out HP.out _)))))
    refine wpQuiet_nil ?_
    intro e1
    have hb2 := hbl.trans (e1.below.mono hbl.size)
    have hx2 := hx.below e1.below
    have X0 := hx2.1
    have X1 := hx2.2.1
    have X2 := hx2.2.2
    clear m0 m1 m2 ml k0 k1 kl
    have c0 := X0.cell 0
    simp at c0
    have cl := X0.lt
    have d0 := X1.cell 0
    simp at d0
    have dl := X1.lt
    have f0 := X2.cell 0
    simp at f0
    have fl := X2.lt
    have cg0 := X0.frozen 0
    have dg0 := X1.frozen 0
    have fg0 := X2.frozen 0
    rw [HG.out]
    go_wp2_with fail
    (try simp only [Exit.inBlock, Exit.then])
    first | refine bodyPost_end (results_none rfl _ _ _) rfl ?_ | refine bodyPost_ret (results_none rfl _ _ _) rfl ?_
    exact ⟨rfl, ((hb2.setCell (Nat.le_refl _) _).setCell (Nat.le_succ _) _).setCell (by simp; omega) _, hx2.put _ _ _⟩
  · rw [EN.out (fun h => h.elim a1 a2)]
    go_enter Try.func80, Try.ntmps80
    go_wp2_with fail
    refine (within_eq _ _ _ _).mono ?_
    rintro e w1 ⟨rfl, rfl⟩
    go_wp2_with fail
    refine (within_eq _ _ _ _).mono ?_
    rintro e w1 ⟨rfl, rfl⟩
    go_wp2_with fail
    clear q1 q2
    refine wp_region_ext (by kernel_rfl) (by kernel_rfl) ?_
    repeat (go_big_quiet_step ((first | (go_at_call 67; exact quiet_ext (warp_any C R _ n cp l u v _ OKH.out (HS.out.below (ExtW.below _)) HU.out.1 HU.out.2)) | (go_at_call 77; exact quiet_ext (spotGap_any _ _ p q HW.out HP.out _)))))
    refine wpQuiet_nil ?_
    intro e1
    have hb2 := hbl.trans (e1.below.mono hbl.size)
    have hx2 := hx.below e1.below
    have X0 := hx2.1
    have X1 := hx2.2.1
    have X2 := hx2.2.2
    clear m0 m1 m2 ml k0 k1 kl
    have c0 := X0.cell 0
    simp at c0
    have cl := X0.lt
    have d0 := X1.cell 0
    simp at d0
    have dl := X1.lt
    have f0 := X2.cell 0
    simp at f0
    have fl := X2.lt
    have cg0 := X0.frozen 0
    have dg0 := X1.frozen 0
    have fg0 := X2.frozen 0
    rw [HG.out]
    go_wp2_with fail
    (try simp only [Exit.inBlock, Exit.then])
    first | refine bodyPost_end (results_none rfl _ _ _) rfl ?_ | refine bodyPost_ret (results_none rfl _ _ _) rfl ?_
    exact ⟨rfl, hb2, hx2⟩
set_option maxRecDepth 100000 in
set_option maxHeartbeats 8000000 in
theorem implUnwarpPoint_any (C R : Int) (A : Option Addr) (n c : Nat) (l : Nat → SpotD) (p q : Int) (w : World) (hn : n ≤ 1048576) (hs : Sl w A (n * 2) (SpotC l)) (_hg : ∀ k, k < n → SpotOk (l k)) (_hp : -9223372036854775808 ≤ p ∧ p ≤ 9223372036854775807) (_hq : -9223372036854775808 ≤ q ∧ q ≤ 9223372036854775807) :
    Calls Try.prog 46 #[.agg #[.int .i64 C, .int .i64 R, .slice A n c], .agg #[.int .i64 p, .int .i64 q]] w fun e w' => e = .returned (.tuple #[.int .i64 (mUwU C R n l p q), .int .i64 (mUwV C R n l p q), .int .i64 (mUwD C R n l p q), .int .i64 (mUwC C R n l p q)]) ∧ Below w.heap.size w w' := by
  have hmf : ∀ (fn : Fn) (first cap : Array Value) (w : World), (Instr.makeFunc fn first cap).run Try.prog w = .ok (.func fn first cap) w := fun _ _ _ _ => rfl
  go_enter Try.func46, Try.ntmps46
  go_wp2_with fail
  generalize hW : World.alloc (World.alloc w _) _ = w1
  have hb1 : Below w.heap.size w w1 := by rw [← hW]; repeat (first | with_reducible exact Below.refl _ _ | with_reducible assumption | with_reducible refine Below.setCell ?_ (by simp <;> omega) _ | with_reducible refine Below.alloc ?_ (by simp <;> omega) _ | with_reducible refine Below.drew ?_)
  have x0 : Blk w1 w.heap.size 29 #[.int .i64 C, .int .i64 R, .slice A n c] := by rw [← hW]; exact (Blk.new w _ _).alloc _
  have x1 : Blk w1 (w.heap.size + 1) 39 #[.int .i64 p, .int .i64 q] := by
    have h := Blk.new (w.alloc (.cells #[.int .i64 C, .int .i64 R, .slice A n c] 29)) 39 #[.int .i64 p, .int .i64 q]
    rw [hW] at h
    simpa using h
  clear hW
  have a0 := x0.cell 0
  have a1 := x0.cell 1
  have a2 := x0.cell 2
  simp at a0 a1 a2
  have al := x0.lt
  refine (validMesh_any C R _ n c l _ hn (hs.below hb1)).mono ?_
  rintro e w2 ⟨rfl, hb2⟩
  have hbw2 := hb1.trans (hb2.mono hb1.size)
  have y1 := x1.below hb2 x1.lt
  have y0 := x0.below hb2 x0.lt
  clear a0 a1 a2 al
  rcases b_cases (meshOk C R n l) with ok | ok
  · have E := Lib.hid (mUw_no (p := p) (q := q) ok)
    rw [ok]
    go_wp2_with fail
    (try simp only [Exit.inBlock, Exit.then])
    refine bodyPost_ret (results_t4 rfl _ _ _) rfl ?_
    exact ⟨ret_tup4 E.out.1.symm E.out.2.1.symm E.out.2.2.1.symm E.out.2.2.2.symm, hbw2⟩
  have z0 := y1.cell 0
  have z1 := y1.cell 1
  simp at z0 z1
  have zl := y1.lt
  rw [ok]
  go_wp2_with fail
  refine (inPlane_any _ _ _).mono ?_
  rintro e w3 ⟨rfl, hb3⟩
  have hbw3 := hbw2.trans (hb3.mono hbw2.size)
  have x0 := y0.below hb3 y0.lt
  have x1 := y1.below hb3 y1.lt
  clear z0 z1 zl
  rcases b_cases (plane p q) with pq | pq
  · have E := Lib.hid (mUw_out ok pq)
    rw [pq]
    go_wp2_with fail
    (try simp only [Exit.inBlock, Exit.then])
    refine bodyPost_ret (results_t4 rfl _ _ _) rfl ?_
    exact ⟨ret_tup4 E.out.1.symm E.out.2.1.symm E.out.2.2.1.symm E.out.2.2.2.symm, hbw3⟩
  have E := Lib.hid (mUw_ok ok pq)
  have OK := Lib.hid (meshOk_of ok)
  have PQ := Lib.hid (plane_pl pq)
  have SD := search_at (gapF_ok OK.out PQ.out)
  have FD := gapF_ok OK.out PQ.out _ _ SD.1
  rw [← SD.2] at FD
  have FOK := Lib.hid (gapF_ok OK.out PQ.out)
  have TRY := fun (u v : Int) (s : St) (W : World) h1 h2 h3 => try2_any w3 w.heap.size (w.heap.size + 1) C R _ n c l p q u v s W OK.out (hs.below hbw3) x0 x1 PQ.out h1 h2 h3
  generalize gapF C R l p q = F at *
  have HT := Lib.hid TRY
  clear TRY
  rw [pq]
  clear ok pq SD
  go_wp2_with fail
  generalize hV : World.alloc (World.alloc (World.alloc w3 _) _) _ = w4
  have h4 : Below w3.heap.size w3 w4 := by rw [← hV]; repeat (first | with_reducible exact Below.refl _ _ | with_reducible assumption | with_reducible refine Below.setCell ?_ (by first | omega | (simp <;> omega)) _ | with_reducible refine Below.alloc ?_ (by first | omega | (simp <;> omega)) _ | with_reducible refine Below.drew ?_)
  have v4 : ImpB w4 w3.heap.size ⟨0, 0, -1⟩ := by
    rw [← hV]
    have k0 := ((Blk.new w3 2 #[.int .i64 0]).alloc (.cells #[.int .i64 0] 2)).alloc (.cells #[.int .i64 (-1)] 2)
    have k1 := (Blk.new (w3.alloc (.cells #[.int .i64 0] 2)) 2 #[.int .i64 0]).alloc (.cells #[.int .i64 (-1)] 2)
    have k2 := Blk.new ((w3.alloc (.cells #[.int .i64 0] 2)).alloc (.cells #[.int .i64 0] 2)) 2 #[.int .i64 (-1)]
    have s1 : (w3.alloc (.cells #[.int .i64 0] 2)).heap.size = w3.heap.size + 1 := by simp
    have s2 : ((w3.alloc (.cells #[.int .i64 0] 2)).alloc (.cells #[.int .i64 0] 2)).heap.size = w3.heap.size + 1 + 1 := by simp
    rw [s1] at k1
    rw [s2] at k2
    exact ⟨k0, k1, k2⟩
  clear hV hmf
  go_loopw [12] (fun j wr => ∃ J : Nat, J ≤ 17 ∧ j = .int .i64 (62500 * (J : Int)) ∧ Below w3.heap.size w3 wr ∧ ImpB wr w3.heap.size ((gridS F J))) (fun j _ => (1062500 - intOf j).toNat)
  case atStart => exact ⟨0, by omega, rfl, h4, v4⟩
  case round =>
    obtain ⟨J, hJ, rfl, hbl, hx⟩ := hrel
    by_cases hlt : J < 17
    · have hlt' : 62500 * (J : Int) ≤ 1000000 := by omega
      go_wp2_with fail
      obtain ⟨wo, rfl⟩ : ∃ wo : World, wo = wr := ⟨_, rfl⟩
      clear hlt'
      go_loopw [13] (fun i wr => ∃ I : Nat, I ≤ 17 ∧ i = .int .i64 (62500 * (I : Int)) ∧ Below w3.heap.size w3 wr ∧ ImpB wr w3.heap.size ((rowS F J I (gridS F J)))) (fun i _ => (1062500 - intOf i).toNat)
      case atStart => exact ⟨0, by omega, rfl, hbl, hx⟩
      case round =>
        obtain ⟨I, hI, rfl, hbl, hx⟩ := hrel
        by_cases hlt2 : I < 17
        · have hlt2' : 62500 * (I : Int) ≤ 1000000 := by omega
          go_wp2_with fail
          refine (HT.out (62500 * (I : Int)) (62500 * (J : Int)) _ _ ((StOk.grid J).row J I) hbl hx).mono ?_
          rintro e w5 ⟨rfl, hb5, hx5⟩
          go_wp2_with fail
          go_roundw
          case rel => exact ⟨I + 1, by omega, ret_num (by omega), hb5, hx5⟩
          case measure => simp [intOf]; omega
        · obtain rfl : I = 17 := by omega
          go_wp2_with fail
          go_roundw
          case rel => exact ⟨J + 1, by omega, ret_num (by omega), hbl, hx⟩
          case measure => simp [intOf]; omega
    · have hJ17 : J = 17 := by omega
      have hJn : ¬ 62500 * (J : Int) ≤ 1000000 := by omega
      have hok17 := StOk.grid (f := F) J
      have hfin17 : finS F 31250 (gridS F J) = searchS F := by rw [hJ17]; rfl
      have HF17 := Lib.hid hfin17
      clear hJ17 hfin17
      go_wp2_with fail
      obtain ⟨wo, rfl⟩ : ∃ wo : World, wo = wr := ⟨_, rfl⟩
      clear hJn hlt
      go_loopw [14] (fun a wr => ∃ (s : Nat) (st : St), s ≤ 31250 ∧ a = .int .i64 (s : Int) ∧ StOk F st ∧ finS F s st = searchS F ∧ Below w3.heap.size w3 wr ∧ ImpB wr w3.heap.size st) (fun a _ => (intOf a).toNat)
      case atStart => exact ⟨31250, _, by omega, rfl, hok17, HF17.out, hbl, hx⟩
      case round =>
        obtain ⟨s, st, hs, rfl, hok, hfin, hbl, hx⟩ := hrel
        have HFIN := Lib.hid hfin
        clear hfin
        by_cases h0 : 0 < s
        · have h0' : (0 : Int) < (s : Int) := by omega
          go_wp2_with fail
          obtain ⟨wo, rfl⟩ : ∃ wo : World, wo = wr := ⟨_, rfl⟩
          clear h0'
          go_loopw [42] (fun r wr => ∃ k : Nat, k ≤ 2 ∧ r = .int .i64 (k : Int) ∧ Below w3.heap.size w3 wr ∧ ImpB wr w3.heap.size ((roundsS F (s : Int) k st))) (fun r _ => 2 - (intOf r).toNat)
          case atStart => exact ⟨0, by omega, rfl, hbl, hx⟩
          case round =>
            obtain ⟨k, hk, rfl, hbl, hx⟩ := hrel
            by_cases hk2 : k < 2
            · have hk2' : (k : Int) < 2 := by omega
              have hok2 := StOk.rounds hok (s : Int) k
              have hst : roundsS F (s : Int) (k + 1) st = nbS F (roundsS F (s : Int) k st).u (roundsS F (s : Int) k st).v (s : Int) 3 (roundsS F (s : Int) k st) := rfl
              obtain ⟨S, hS⟩ : ∃ S, roundsS F (s : Int) k st = S := ⟨_, rfl⟩
              rw [hS] at hok2 hst hx
              have HST := Lib.hid hst
              clear hst hS
              have BD := hok2.bd FOK.out
              obtain ⟨⟨u1, u2⟩, ⟨v1, v2⟩, _, _⟩ := BD
              have X0 := hx.1
              have X1 := hx.2.1
              have c0 := X0.cell 0
              simp at c0
              have cl := X0.lt
              have d0 := X1.cell 0
              simp at d0
              have dl := X1.lt
              go_wp2_with fail
              refine wp_region_ext (by kernel_rfl) (by kernel_rfl) ?_
              repeat (go_big_quiet_step (fail))
              refine wpQuiet_nil ?_
              intro e2
              have hbl := hbl.trans (e2.below.mono hbl.size)
              have hx := hx.below e2.below
              go_wp2_with fail
              obtain ⟨wo, rfl⟩ : ∃ q : World, q = e2.val := ⟨_, rfl⟩
              clear c0 cl d0 dl X0 X1 hk2'
              go_loopw [17] (fun b wr => ∃ B : Nat, B ≤ 3 ∧ b = .int .i64 ((B : Int) - 1) ∧ Below w3.heap.size w3 wr ∧ ImpB wr w3.heap.size ((nbS F S.u S.v (s : Int) B S))) (fun b _ => (2 - intOf b).toNat)
              case atStart => exact ⟨0, by omega, rfl, hbl, hx⟩
              case round =>
                obtain ⟨B, hB, rfl, hbl, hx⟩ := hrel
                by_cases hB3 : B < 3
                · have hB3' : (B : Int) - 1 ≤ 1 := by omega
                  have mb1 := mul_bd (a := (B : Int) - 1) (b := (s : Int)) (m := 1) (n := 31250) (by omega) (by omega) (by omega) (by omega) (by omega)
                  obtain ⟨m1, m2⟩ := mb1
                  go_wp2_with fail
                  obtain ⟨wo, rfl⟩ : ∃ wo : World, wo = wr := ⟨_, rfl⟩
                  clear hB3'
                  go_loopw [18] (fun a wr => ∃ I : Nat, I ≤ 3 ∧ a = .int .i64 ((I : Int) - 1) ∧ Below w3.heap.size w3 wr ∧ ImpB wr w3.heap.size ((nbRow F S.u S.v (s : Int) ((B : Int) - 1) I (nbS F S.u S.v (s : Int) B S)))) (fun a _ => (2 - intOf a).toNat)
                  case atStart => exact ⟨0, by omega, rfl, hbl, hx⟩
                  case round =>
                    obtain ⟨I, hI, rfl, hbl, hx⟩ := hrel
                    by_cases hI3 : I < 3
                    · have hI3' : (I : Int) - 1 ≤ 1 := by omega
                      have mb2 := mul_bd (a := (I : Int) - 1) (b := (s : Int)) (m := 1) (n := 31250) (by omega) (by omega) (by omega) (by omega) (by omega)
                      obtain ⟨m3, m4⟩ := mb2
                      go_wp2_with fail
                      refine (HT.out (S.u + ((I : Int) - 1) * (s : Int)) (S.v + ((B : Int) - 1) * (s : Int)) _ _ ((hok2.nb S.u S.v (s : Int) B).nbr S.u S.v (s : Int) ((B : Int) - 1) I) hbl hx).mono ?_
                      rintro e w5 ⟨rfl, hb5, hx5⟩
                      go_wp2_with fail
                      go_roundw
                      case rel => exact ⟨I + 1, by omega, ret_num (by omega), hb5, hx5⟩
                      case measure => simp [intOf]; omega
                    · obtain rfl : I = 3 := by omega
                      go_wp2_with fail
                      go_roundw
                      case rel => exact ⟨B + 1, by omega, ret_num (by omega), hbl, hx⟩
                      case measure => simp [intOf]; omega
                · obtain rfl : B = 3 := by omega
                  go_wp2_with fail
                  go_roundw
                  case rel => exact ⟨k + 1, by omega, by go_num, hbl, by rw [HST.out]; exact hx⟩
                  case measure => simp [intOf]; omega
            · obtain rfl : k = 2 := by omega
              go_wp2_with fail
              go_roundw
              case rel => exact ⟨s / 2, _, by omega, by go_num, StOk.rounds hok (s : Int) 2, by rw [← HFIN.out, finS_pos h0], hbl, hx⟩
              case measure => simp [intOf]; omega
        · obtain rfl : s = 0 := by omega
          have E := HFIN.out
          rw [finS_zero] at E
          subst E
          have HB5 := hbw3.trans (hbl.mono hbw3.size)
          obtain ⟨S, hS⟩ : ∃ S, searchS F = S := ⟨_, rfl⟩
          rw [hS] at hx FD E
          obtain ⟨f1, f2⟩ := FD
          clear hS
          have X0 := hx.1
          have X1 := hx.2.1
          have X2 := hx.2.2
          have c0 := X0.cell 0
          simp at c0
          have cl := X0.lt
          have d0 := X1.cell 0
          simp at d0
          have dl := X1.lt
          have f0 := X2.cell 0
          simp at f0
          have fl := X2.lt
          go_wp2_with fail
          refine wp_region_ext (by kernel_rfl) (by kernel_rfl) ?_
          repeat (go_big_quiet_step ((first | (go_at_call 78; exact quiet_ext ((rootOf_eq S.d (by omega) _).mono fun _ _ h => ⟨h.1, h.2 ▸ Below.refl _ _⟩)))))
          refine wpQuiet_nil ?_
          intro e1
          have HB6 := HB5.trans (e1.below.mono HB5.size)
          go_wp2_with fail
          (try simp only [Exit.inBlock, Exit.then])
          refine bodyPost_ret (results_t4 rfl _ _ _) rfl ?_
          exact ⟨ret_tup4 E.out.1.symm E.out.2.1.symm E.out.2.2.1.symm E.out.2.2.2.symm, HB6⟩
end Go.Proofs.Ytddcbieomklhnaa
