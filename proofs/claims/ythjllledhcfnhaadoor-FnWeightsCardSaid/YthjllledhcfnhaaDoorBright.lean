/- The brightness at a direction. Conditions: the slice reads as projectors; the variable sines holds its table. -/
import Derived.Test.YthjllledhcfnhaaDoorShareS
namespace Go.Ks
def litF (l : Nat → ProjectorD) (az alt : Int) (n : Nat) (k : Nat) : Int := sharesL l az alt n k * (l k).f4
def brightV (n : Nat) (l : Nat → ProjectorD) (az alt : Int) : Int := sumTo (litF l az alt n) n / 1000
theorem lit_bd {l : Nat → ProjectorD} {az alt : Int} {n : Nat} (h : ∀ k, k < n → 5000 ≤ (l k).f3) (hp : ∀ k, k < n → 1 ≤ (l k).f4 ∧ (l k).f4 ≤ 1000) (hs : rawS l az alt n ≠ 0) {k : Nat} (hk : k < n) : 0 ≤ litF l az alt n k ∧ litF l az alt n k ≤ 1002000000 := by
  obtain ⟨a0, a1⟩ := sharesL_bd (az := az) (alt := alt) h hs hk
  obtain ⟨b0, b1⟩ := hp k hk
  have := mul_bd (a := sharesL l az alt n k) (b := (l k).f4) (m := 1002000) (n := 1000) (by omega) a1 (by omega) b1 (by omega)
  exact ⟨Int.mul_nonneg a0 (by omega), by unfold litF; omega⟩
theorem litS_bd {l : Nat → ProjectorD} {az alt : Int} {n : Nat} (h : ∀ k, k < n → 5000 ≤ (l k).f3) (hp : ∀ k, k < n → 1 ≤ (l k).f4 ∧ (l k).f4 ≤ 1000) (hs : rawS l az alt n ≠ 0) {k : Nat} (hk : k ≤ n) : 0 ≤ sumTo (litF l az alt n) k ∧ sumTo (litF l az alt n) k ≤ 1002000000 * (k : Int) := sumTo_bd (by omega) k (fun j hj => lit_bd h hp hs (by omega))
theorem bright_bd {l : Nat → ProjectorD} {az alt : Int} {n : Nat} (hn : n ≤ 6) (h : ∀ k, k < n → 5000 ≤ (l k).f3) (hp : ∀ k, k < n → 1 ≤ (l k).f4 ∧ (l k).f4 ≤ 1000) (hs : rawS l az alt n ≠ 0) : 0 ≤ brightV n l az alt ∧ brightV n l az alt ≤ 10000000 := by
  have := litS_bd (az := az) (alt := alt) h hp hs (Nat.le_refl n)
  unfold brightV
  omega
end Go.Ks
namespace Go.Proofs.YthjllledhcfnhaaDoor
open Go.RowKit Go.Lib Go.Ks
def brightB (n : Nat) (l : Nat → ProjectorD) (az alt : Int) : Int := if rawS l az alt n = 0 then -1 else brightV n l az alt
def brightX (n : Nat) (l : Nat → ProjectorD) (az alt : Int) : Int := if rawS l az alt n = 0 then 0 else brightV n l az alt
def brightC (n : Nat) (l : Nat → ProjectorD) (az alt : Int) : Int := if rawS l az alt n = 0 then 3 else 0
set_option maxRecDepth 100000 in
set_option maxHeartbeats 4000000 in
theorem brightnessAt_any (A : Option Addr) (n c : Nat) (l : Nat → ProjectorD) (az alt : Int) (w : World) (hn : n ≤ 6) (hs : Sl w A (n * 5) (ProjectorC l)) (hp : ∀ k, k < n → projB (l k) = true) (ha : I64 az) (hl : I64 alt) (hT : Tab w) :
    Calls Tryd.prog 77 #[.slice A n c, .int .i64 az, .int .i64 alt] w fun e w' => e = .returned (.tuple #[.int .i64 (brightX n l az alt), .int .i64 (brightC n l az alt)]) ∧ Below w.heap.size w w' := by
  have hn6 : (n : Int) ≤ 6 := by omega
  have HF : ∀ k, k < n → 5000 ≤ (l k).f3 := fun k hk => (proj_dir (hp k hk)).2.2.1.1
  have HPW : ∀ k, k < n → 1 ≤ (l k).f4 ∧ (l k).f4 ≤ 1000 := fun k hk => (proj_dir (hp k hk)).2.2.2
  go_enter Tryd.func77, Tryd.ntmps77
  go_wp2_with fail
  refine (sharesAt_any A n _ l az alt _ hn hs hp ha hl hT).mono ?_
  rintro e w2 ⟨⟨A2, c2, rfl, ho, hz⟩, HB2⟩
  clear hp hT
  by_cases q : rawS l az alt n = 0
  · have E := Lib.hid (And.intro (show brightX n l az alt = 0 from if_pos q) (show brightC n l az alt = 3 from if_pos q))
    rw [show (if rawS l az alt n = 0 then (3 : Int) else 0) = 3 from if_pos q]
    go_wp2_with fail
    go_ret2
    exact ⟨ret_tup E.out.1.symm E.out.2.symm, HB2⟩
  have E := Lib.hid (And.intro (show brightX n l az alt = brightV n l az alt from if_neg q) (show brightC n l az alt = 0 from if_neg q))
  rw [show (if rawS l az alt n = 0 then (3 : Int) else 0) = 0 from if_neg q]
  have EN : sharesN l az alt n = n := if_neg q
  have jp := (sharesN_pos q).2
  rw [EN] at ho ⊢
  clear EN
  have HQ := Lib.hid q
  clear q
  go_wp2_with fail
  obtain ⟨wo, rfl⟩ : ∃ q : World, q = w2 := ⟨_, rfl⟩
  go_loopw [10, 25] (fun s i wr => ∃ k : Nat, k ≤ n ∧ i = .int .i64 k ∧ s = .int .i64 (sumTo (litF l az alt n) k) ∧ Below wo.heap.size wo wr) (fun _ i _ => n - (intOf i).toNat)
  case atStart => exact ⟨0, Nat.zero_le _, rfl, rfl, Below.refl _ _⟩
  case round =>
    obtain ⟨k, hk, rfl, rfl, hbl⟩ := hrel
    obtain ⟨cb0, cb1⟩ := litS_bd (az := az) (alt := alt) HF HPW HQ.out hk
    have HBL := HB2.trans (hbl.mono HB2.size)
    by_cases hlt : k < n
    · obtain ⟨b, off, rfl, hc⟩ := ProjectorAt.of_sl hs (by omega)
      obtain ⟨hbr, d0, d1, d2, d3, d4⟩ := (hc k hlt).below HBL
      obtain ⟨b2, off2, rfl, hbb, hcc⟩ := (ho.sl.below hbl) (by omega)
      have s0 := hcc k (by omega)
      unfold IntC at s0
      have hbr2 : b < wr.heap.size + 1 := by omega
      have hbb2 : b2 < wr.heap.size + 1 := by omega
      clear hc hcc
      obtain ⟨lb0, lb1⟩ := lit_bd (az := az) (alt := alt) HF HPW HQ.out hlt
      unfold litF at lb0 lb1
      have hal := hbl.alloc hbl.size (.cells #[.string (l k).f0, .int .i64 (l k).f1, .int .i64 (l k).f2, .int .i64 (l k).f3, .int .i64 (l k).f4] 43)
      go_wp2_with fail
      refine wp_region_ext (by kernel_rfl) (by kernel_rfl) ?_
      repeat (go_big_quiet_step (fail))
      refine wpQuiet_nil ?_
      intro e1
      have hb3 := hal.trans (e1.below.mono hal.size)
      go_wp2_with fail
      go_roundw
      case rel => exact ⟨k + 1, by omega, by go_num, rfl, hb3⟩
      case measure => simp [intOf]; omega
    · obtain rfl : k = n := by omega
      go_wp2_with fail
      go_ret2
      exact ⟨ret_tup E.out.1.symm E.out.2.symm, HBL⟩
end Go.Proofs.YthjllledhcfnhaaDoor
