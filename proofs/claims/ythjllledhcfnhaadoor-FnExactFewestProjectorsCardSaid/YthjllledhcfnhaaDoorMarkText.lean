/- The text of a mark. Condition: the mark is a number from 1 to 2 * 10^9. -/
import Derived.Test.YthjllledhcfnhaaDoorRows
import Derived.Test.YthjllledhcfnhaaDoorBase
import Derived.Laws.BytesString
import Derived.Laws.Concat
namespace Go.Ks
/-- a text of one byte -/
def chB (z : Int) : ByteArray := ByteArray.empty.push (UInt8.ofNat z.toNat)
theorem chB_size (z : Int) : (chB z).size = 1 := rfl
def mkD (j : Nat) (o : ByteArray) : ByteArray := if _h : j = 0 then o else mkD (j / 10) (chB (48 + (j : Int) % 10) ++ o)
termination_by j
theorem mkD_zero (o : ByteArray) : mkD 0 o = o := by unfold mkD; rw [dif_pos rfl]
theorem mkD_pos {j : Nat} (h : 0 < j) (o : ByteArray) : mkD j o = mkD (j / 10) (chB (48 + (j : Int) % 10) ++ o) := by rw [mkD.eq_1 j o, dif_neg (by omega)]
/-- the text of mark k -/
def mkTx (k : Int) : ByteArray := (⟨#[109]⟩ : ByteArray) ++ mkD k.toNat ⟨#[]⟩
/-- the value of a mark: a text or a number -/
def mkV (K : Nat → Bool) (i : Nat) (x : Int) : Value := if K i then .string (mkTx x) else .int .i64 x
theorem mkV_s {K : Nat → Bool} {i : Nat} {x y : Int} (h : K i = true) (hx : x = y) : Value.string (mkTx x) = mkV K i y := by unfold mkV; rw [h, hx]; rfl
theorem mkV_i {K : Nat → Bool} {i : Nat} {x y : Int} (h : K i = false) (hx : x = y) : Value.int .i64 x = mkV K i y := by unfold mkV; rw [h, hx]; rfl
/-- the first m cells are marked, a struct of s fields after the other -/
def mkK (K : Nat → Bool) (s : Nat) (k0 : Int) (m : Nat) (f : Nat → Value) (j : Nat) : Value := if j < m then mkV K (j % s) (k0 + (j : Int)) else f j
theorem mkK_at {K : Nat → Bool} {s : Nat} {k0 : Int} {m : Nat} {f : Nat → Value} {j i : Nat} {x : Int} (h : j < m) (hi : j % s = i) (hx : x = k0 + (j : Int)) : some (mkK K s k0 m f j) = some (mkV K i x) := by
  unfold mkK; rw [if_pos h, hi, hx]
theorem mkK_out {K : Nat → Bool} {s : Nat} {k0 : Int} {m : Nat} {f : Nat → Value} {j : Nat} (h : ¬ j < m) : mkK K s k0 m f j = f j := if_neg h
theorem mkK_step5 {K : Nat → Bool} {w : World} {B : Nat} {t : TypeId} {m k : Nat} {k0 : Int} {f : Nat → Value} {v0 v1 v2 v3 v4 : Value} (h : Blk w B t (arr m (fun j => if j = k * 5 + 4 then v4 else if j = k * 5 + 3 then v3 else if j = k * 5 + 2 then v2 else if j = k * 5 + 1 then v1 else if j = k * 5 then v0 else  mkK K 5 k0 (k * 5) f j)))
    (h0 : v0 = mkV K 0 (k0 + ((k * 5 : Nat) : Int))) (h1 : v1 = mkV K 1 (k0 + ((k * 5 + 1 : Nat) : Int))) (h2 : v2 = mkV K 2 (k0 + ((k * 5 + 2 : Nat) : Int))) (h3 : v3 = mkV K 3 (k0 + ((k * 5 + 3 : Nat) : Int))) (h4 : v4 = mkV K 4 (k0 + ((k * 5 + 4 : Nat) : Int))) :
    Blk w B t (arr m (mkK K 5 k0 ((k + 1) * 5) f)) := h.congr (fun j _ => by
  unfold mkK
  by_cases e4 : j = k * 5 + 4
  · rw [if_pos e4, if_pos (by omega), h4, e4, show (k * 5 + 4) % 5 = 4 from by omega]
  by_cases e3 : j = k * 5 + 3
  · rw [if_neg e4, if_pos e3, if_pos (by omega), h3, e3, show (k * 5 + 3) % 5 = 3 from by omega]
  by_cases e2 : j = k * 5 + 2
  · rw [if_neg e4, if_neg e3, if_pos e2, if_pos (by omega), h2, e2, show (k * 5 + 2) % 5 = 2 from by omega]
  by_cases e1 : j = k * 5 + 1
  · rw [if_neg e4, if_neg e3, if_neg e2, if_pos e1, if_pos (by omega), h1, e1, show (k * 5 + 1) % 5 = 1 from by omega]
  by_cases e0 : j = k * 5
  · rw [if_neg e4, if_neg e3, if_neg e2, if_neg e1, if_pos e0, if_pos (by omega), h0, e0, show (k * 5) % 5 = 0 from by omega]
  rw [if_neg e4, if_neg e3, if_neg e2, if_neg e1, if_neg e0]
  by_cases hx : j < k * 5
  · rw [if_pos hx, if_pos (by omega)]
  · rw [if_neg hx, if_neg (by omega)])
end Go.Ks
namespace Go.Proofs.YthjllledhcfnhaaDoor
open Go.RowKit Go.Lib Go.Ks
theorem convOne (W : World) (z : Int) : (convert 34 9 (.slice (some ⟨W.heap.size, 0, none⟩) 1 1)).run Tryd.prog (W.alloc (.cells #[.int .u8 z] 5)) = .ok (.string (chB z)) (W.alloc (.cells #[.int .u8 z] 5)) := by
  rw [run_convert_bytes_string (P := Tryd.prog) _ 34 9 5 _ _ _ (by kernel_rfl) (by kernel_rfl) (by kernel_rfl)]
  rw [run_bytesToString (P := Tryd.prog) _ _ 1 1 [z] (by simp [go_sem, loadCells])]
  rfl
set_option maxHeartbeats 1000000 in
theorem markText_any (k : Int) (w : World) (hk : 0 < k) (hk2 : k ≤ 2000000000) :
    Calls Tryd.prog 71 #[.int .i64 k] w fun e w' => e = .returned (.string (mkTx k)) ∧ Below w.heap.size w w' := by
  have hcv := fun W z => convOne W z
  have hs1 := fun z => chB_size z
  go_enter Tryd.func71, Tryd.ntmps71
  go_wp2_with fail
  go_loopw [0, 3] (fun a s wr => ∃ (j : Nat) (o : ByteArray), a = .int .i64 (j : Int) ∧ s = .string o ∧ (o.size : Int) + (j : Int) ≤ k ∧ mkD j o = mkD k.toNat ⟨#[]⟩ ∧ Below w.heap.size w wr) (fun a _ _ => (intOf a).toNat)
  case atStart => exact ⟨k.toNat, ⟨#[]⟩, ret_num (by omega), rfl, by have : (ByteArray.mk #[]).size = 0 := rfl; omega, rfl, Below.refl _ _⟩
  case round =>
    obtain ⟨j, o, rfl, rfl, ho, hD, hbl⟩ := hrel
    have HD := Lib.hid hD
    clear hD
    by_cases hj : 0 < j
    · have hjj : (0 : Int) < j := by omega
      have hm0 : 0 ≤ (j : Int) % 10 := by omega
      have hm1 : (j : Int) % 10 < 10 := by omega
      have EP := Lib.hid (mkD_pos hj o)
      go_wp2_with fail
      go_roundw
      case rel =>
        refine ⟨j / 10, _, ret_num (by omega), rfl, ?_, EP.out.symm.trans HD.out, ?_⟩
        · rw [ByteArray.size_append, hs1]; omega
        · exact hbl.alloc hbl.size _
      case measure => simp [intOf]; omega
    · obtain rfl : j = 0 := by omega
      have E := Lib.hid (by have := HD.out; rw [mkD_zero] at this; rw [mkTx, ← this] : mkTx k = (⟨#[109]⟩ : ByteArray) ++ o)
      go_wp2_with fail
      go_ret
      exact ⟨by rw [E.out]; rfl, hbl⟩
end Go.Proofs.YthjllledhcfnhaaDoor
