/- MeshText. Conditions: the slice reads as spots; the library's table of powers of ten lies. -/
import Derived.Test.YthjllledhcfnhaaDoorText
import Derived.Test.YthjllledhcfnhaaDoorMesh
namespace Go.Ks
/-- the text of a mesh up to point k -/
def meshTx (C R : Int) (l : Nat → SpotD) : Nat → ByteArray
  | 0 => decB C ++ (⟨#[120]⟩ : ByteArray) ++ decB R
  | k + 1 => meshTx C R l k ++ ((⟨#[32]⟩ : ByteArray) ++ decB (l k).f0 ++ (⟨#[44]⟩ : ByteArray) ++ decB (l k).f1)
theorem byte1 (x : UInt8) : (⟨#[x]⟩ : ByteArray).size = 1 := rfl
theorem meshTx_size {C R : Int} {l : Nat → SpotD} (hC : -9223372036854775808 ≤ C ∧ C ≤ 9223372036854775807) (hR : -9223372036854775808 ≤ R ∧ R ≤ 9223372036854775807) : ∀ k, (∀ j, j < k → (-2000000 ≤ (l j).f0 ∧ (l j).f0 ≤ 2000000) ∧ (-2000000 ≤ (l j).f1 ∧ (l j).f1 ≤ 2000000)) → (meshTx C R l k).size ≤ 43 + 44 * k
  | 0, _ => by
    have h1 := decB_size hC
    have h2 := decB_size hR
    unfold meshTx
    rw [ByteArray.size_append, ByteArray.size_append, byte1]
    omega
  | k + 1, h => by
    have ih := meshTx_size hC hR k (fun j hj => h j (by omega))
    obtain ⟨⟨a1, a2⟩, a3, a4⟩ := h k (by omega)
    have h1 := decB_size (n := (l k).f0) (by omega)
    have h2 := decB_size (n := (l k).f1) (by omega)
    unfold meshTx
    rw [ByteArray.size_append, ByteArray.size_append, ByteArray.size_append, ByteArray.size_append, byte1, byte1]
    omega
theorem decB_minus {u : Nat} (h : 0 < u) : (⟨#[45]⟩ : ByteArray) ++ decB (u : Int) = decB (-(u : Int)) := by
  unfold decB
  rw [Lib.itoa_neg u h, Lib.itoa_nonneg]
  apply ByteArray.ext
  rw [ByteArray.data_append]
  simp
end Go.Ks
namespace Go.Proofs.YthjllledhcfnhaaDoor
open Go.RowKit Go.Lib Go.Ks
noncomputable def mMT (C R : Int) (n : Nat) (l : Nat → SpotD) : ByteArray := if meshOk C R n l = true then meshTx C R l n else ⟨#[]⟩
theorem b_cases (b : Bool) : b = false ∨ b = true := by cases b <;> simp
set_option maxRecDepth 100000 in
set_option maxHeartbeats 4000000 in
theorem implMeshText_any (C R : Int) (A : Option Addr) (n c : Nat) (l : Nat → SpotD) (w : World) (hn : n ≤ 1048576) (hs : Sl w A (n * 2) (SpotC l)) (_hg : ∀ k, k < n → SpotOk (l k)) (hT : Tab w) :
    Calls Tryd.prog 43 #[.agg #[.int .i64 C, .int .i64 R, .slice A n c]] w fun e w' => e = .returned (.string (mMT C R n l)) ∧ Below w.heap.size w w' := by
  have HT := Lib.hid hT
  clear hT
  go_enter Tryd.func43, Tryd.ntmps43
  go_wp2_with fail
  generalize hV : World.alloc _ _ = w1
  have h1 : Below w.heap.size w w1 := by rw [← hV]; exact (Below.refl _ _).alloc (Nat.le_refl _) _
  have x1 : Blk w1 w.heap.size 69 #[.int .i64 C, .int .i64 R, .slice A n c] := by rw [← hV]; exact Blk.new w _ _
  clear hV
  have a0 := x1.cell 0
  have a1 := x1.cell 1
  have a2 := x1.cell 2
  simp at a0 a1 a2
  have al := x1.lt
  refine (validMesh_any C R _ n c l _ hn (hs.below h1)).mono ?_
  rintro e w2 ⟨rfl, hb2⟩
  have HB2 := h1.trans (hb2.mono h1.size)
  have x2 := x1.below hb2 x1.lt
  clear a0 a1 a2 al
  rcases b_cases (meshOk C R n l) with q | q
  · have E := Lib.hid (show mMT C R n l = ⟨#[]⟩ by unfold mMT; rw [q]; rfl)
    rw [q]
    go_wp2_with fail
    go_ret
    exact ⟨by rw [E.out] <;> rfl, HB2⟩
  have E := Lib.hid (show mMT C R n l = meshTx C R l n by unfold mMT; rw [q]; rfl)
  have OK := meshOk_of q
  obtain ⟨⟨hC1, hC2⟩, ⟨hR1, hR2⟩, hnc, hpl⟩ := OK
  have n81 : n ≤ 81 := by
    have h := mul_bd (a := C) (b := R) (m := 9) (n := 9) (by omega) (by omega) (by omega) (by omega) (by omega)
    omega
  have n81' : (n : Int) ≤ 81 := by omega
  have PL := Lib.hid (fun j (hj : j < n) => plane_iff.1 (hpl j hj))
  have SZ := Lib.hid (fun k (hk : k ≤ n) => meshTx_size (C := C) (R := R) (l := l) (by omega) (by omega) k (fun j hj => PL.out j (by omega)))
  have e0 := decB_size (n := C) (by omega)
  have e1 := decB_size (n := R) (by omega)
  rw [q]
  clear q hnc hpl
  have a0 := x2.cell 0
  have a1 := x2.cell 1
  have a2 := x2.cell 2
  simp at a0 a1 a2
  have al := x2.lt
  have TT := Lib.hid (HT.out.below HB2)
  go_wp2_with fail
  refine wp_region_ext (by kernel_rfl) (by kernel_rfl) ?_
  repeat (go_big_quiet_step ((first | (go_at_call 105; exact quiet_ext (decimal_any _ (by omega) _ (TT.out.below (ExtW.below _)))))))
  refine wpQuiet_nil ?_
  intro e2
  have HB3 := HB2.trans (e2.below.mono HB2.size)
  have x3 := x2.below e2.below x2.lt
  clear a0 a1 a2 al
  have a0 := x3.cell 0
  have a1 := x3.cell 1
  have a2 := x3.cell 2
  simp at a0 a1 a2
  have al := x3.lt
  go_wp2_with fail
  clear e0 e1 a0 a1 a2 al
  go_loopw [3, 20] (fun s i wr => ∃ k : Nat, k ≤ n ∧ i = .int .i64 (k : Int) ∧ s = .string (meshTx C R l k) ∧ Below w.heap.size w wr) (fun _ i _ => n - (RowKit.intOf i).toNat)
  case atStart => exact ⟨0, Nat.zero_le _, rfl, rfl, HB3⟩
  case round =>
    obtain ⟨k, hk, rfl, rfl, hbl⟩ := hrel
    have sz := SZ.out k hk
    have ET := Lib.hid (show meshTx C R l (k + 1) = meshTx C R l k ++ ((⟨#[32]⟩ : ByteArray) ++ decB (l k).f0 ++ (⟨#[44]⟩ : ByteArray) ++ decB (l k).f1) from rfl)
    obtain ⟨T, hT⟩ : ∃ T, meshTx C R l k = T := ⟨_, rfl⟩
    rw [hT] at sz ET ⊢
    have HTT := Lib.hid hT
    clear hT
    by_cases hlt : k < n
    · obtain ⟨b, off, rfl, hb, hc⟩ := hs (by omega)
      have hbr : b < wr.heap.size := by have := hbl.size; omega
      have d0 : wr.cell? ⟨b, off + k * 2, none⟩ = some (.int .i64 (l k).f0) := by rw [hbl.cell (by exact hb), hc _ (by omega), SpotC0]
      have d1 : wr.cell? ⟨b, off + k * 2 + 1, none⟩ = some (.int .i64 (l k).f1) := by rw [hbl.cell (by exact hb), Nat.add_assoc, hc _ (by omega), SpotC1]
      clear hc
      have P := PL.out k hlt
      obtain ⟨⟨a1, a2⟩, a3, a4⟩ := P
      have s1 := decB_size (n := (l k).f0) (by omega)
      have s2 := decB_size (n := (l k).f1) (by omega)
      go_wp2_with fail
      generalize hV : World.alloc _ _ = w6
      have hb6 : Below wr.heap.size wr w6 := by rw [← hV]; exact (Below.refl _ _).alloc (Nat.le_refl _) _
      have x6 : Blk w6 wr.heap.size 81 #[.int .i64 (l k).f0, .int .i64 (l k).f1] := by rw [← hV]; exact Blk.new wr _ _
      clear hV d0 d1
      have hbl6 := hbl.trans (hb6.mono hbl.size)
      have T6 := Lib.hid (HT.out.below hbl6)
      have f0 := x6.cell 0
      have f1 := x6.cell 1
      simp at f0 f1
      have fl := x6.lt
      refine wp_region_ext (by kernel_rfl) (by kernel_rfl) ?_
      repeat (go_big_quiet_step ((first | (go_at_call 105; exact quiet_ext (decimal_any _ (by omega) _ (T6.out.below (ExtW.below _)))))))
      refine wpQuiet_nil ?_
      intro e3
      have hb3 := hbl6.trans (e3.below.mono hbl6.size)
      go_wp2_with fail
      go_roundw
      case rel => exact ⟨k + 1, by omega, by go_num, by rw [ET.out], hb3⟩
      case measure => simp [RowKit.intOf]; omega
    · obtain rfl : k = n := by omega
      go_wp2_with fail
      go_ret
      exact ⟨by rw [E.out, HTT.out] <;> rfl, hbl⟩
end Go.Proofs.YthjllledhcfnhaaDoor
