/- Texts taken apart, by the reference and by the program. Conditions: the size of a text; the library's variables lie. -/
import Derived.Test.YthjllledhcfnhaaGreatDoorReadNum
import Derived.Test.YthjllledhcfnhaaGreatDoorAppendStep
import Derived.Test.YthjllledhcfnhaaGreatDoorText
import Derived.Test.YthjllledhcfnhaaGreatDoorShelfR
namespace Go.Ks.Tx
open Go.RowKit Go.Lib
/-- the cells of a list of texts -/
def wdC (ws : List (List UInt8)) (j : Nat) : Value := .string ⟨(ws.getD j []).toArray⟩
theorem wdC_old {ws : List (List UInt8)} {x : List UInt8} {j : Nat} (h : j < ws.length) : wdC ws j = wdC (ws ++ [x]) j := by
  unfold wdC
  rw [List.getD_eq_getElem?_getD, List.getD_eq_getElem?_getD, List.getElem?_append_left h]
theorem wdC_new (ws : List (List UInt8)) (x : List UInt8) : wdC (ws ++ [x]) ws.length = .string ⟨x.toArray⟩ := by
  unfold wdC
  rw [List.getD_eq_getElem?_getD, List.getElem?_append_right (Nat.le_refl _)]
  simp
theorem wd_news {w : World} {B : Nat} {b : ByteArray} {T : TypeId} {ws : List (List UInt8)} {x : List UInt8} (hB : Blk w B T #[.string b]) (hx : b = ⟨x.toArray⟩) : ∀ j, j < 1 → w.cell? ⟨B, j, none⟩ = some (wdC (ws ++ [x]) (ws.length * 1 + j)) := fun j hj => by
  obtain rfl : j = 0 := by omega
  rw [hB.cell 0, Nat.mul_one, Nat.add_zero, wdC_new, hx]
  rfl
theorem wd_one (ws : List (List UInt8)) (n : Nat) : ∀ j, j < 1 → (wdC ws (n + j)).oneCell' = true := fun _ _ => rfl
theorem ext_list (s : ByteArray) (a b : Nat) : s.extract a b = ⟨((s.data.toList.drop a).take (b - a)).toArray⟩ := by
  apply ByteArray.ext
  rw [ByteArray.data_extract]
  apply Array.ext'
  rw [Array.toList_extract]
theorem drop_at {s : ByteArray} {k : Nat} {b : UInt8} (h : s.data.toList[k]? = some b) : s.data.toList.drop k = b :: s.data.toList.drop (k + 1) := by
  obtain ⟨h1, h2⟩ := List.getElem?_eq_some_iff.1 h
  rw [List.drop_eq_getElem_cons h1, h2]
theorem take_more {s : ByteArray} {f k : Nat} {b : UInt8} (h : s.data.toList[k]? = some b) (hf : f ≤ k) : (s.data.toList.drop f).take (k - f) ++ [b] = (s.data.toList.drop f).take (k + 1 - f) := by
  rw [show k + 1 - f = k - f + 1 by omega, List.take_add_one, List.getElem?_drop, show f + (k - f) = k by omega, h]
  rfl
end Go.Ks.Tx
namespace Go.Proofs.YthjllledhcfnhaaGreatDoor.Tx
open Go.RowKit Go.Lib Go.Ks Go.Ks.Tx
theorem Tryz.infoTx : (Tryz.prog.info? 9).map (fun i => (i.zero, i.size, i.bytes)) = some (some (.string ⟨#[]⟩), 1, 16) := by kernel_rfl
end Go.Proofs.YthjllledhcfnhaaGreatDoor.Tx
