/- Texts taken apart, by the reference and by the program. Conditions: the size of a text; the library's variables lie. -/
import Derived.Test.YtikonccofaiceaaDoorReadNum
import Derived.Test.YtikonccofaiceaaDoorAppendStep
import Derived.Test.YtikonccofaiceaaDoorText
import Derived.Test.YtikonccofaiceaaDoorShelfR
namespace Go.Ks
open Go.RowKit Go.Lib
/-- the cells of a list of texts -/
def wdC (ws : List (List UInt8)) (j : Nat) : Value := .string ⟨(ws.getD j []).toArray⟩
theorem wdC_old {ws : List (List UInt8)} {x : List UInt8} {j : Nat} (h : j < ws.length) : wdC ws j = wdC (ws ++ [x]) j := by
  unfold wdC
  rw [List.getD_eq_getElem?_getD, List.getD_eq_getElem?_getD, List.getElem?_append_left h]
theorem wdC_new (ws : List (List UInt8)) (x : List UInt8) : wdC (ws ++ [x]) ws.length = .string ⟨x.toArray⟩ := by
  unfold wdC
  rw [List.getD_eq_getElem?_getD, List.getElem?_append_right (Nat.le_refl _)]
  simp
theorem wd_news {w : World} {B : Nat} {b : ByteArray} {T : TypeId} {ws : List (List UInt8)} {x : List UInt8} (hB : Blk w B T #[.string b]) (hx : b = ⟨x.toArray⟩) : ∀ j, j < 1 → w.cell? ⟨B, j, none⟩ = some (wdC (ws ++ [x]) (ws.length * 1 + j)) := fun j hj => by
  obtain rfl : j = 0 := by omega
  rw [hB.cell 0, Nat.mul_one, Nat.add_zero, wdC_new, hx]
  rfl
theorem wd_one (ws : List (List UInt8)) (n : Nat) : ∀ j, j < 1 → (wdC ws (n + j)).oneCell' = true := fun _ _ => rfl
theorem ext_list (s : ByteArray) (a b : Nat) : s.extract a b = ⟨((s.data.toList.drop a).take (b - a)).toArray⟩ := by
  apply ByteArray.ext
  rw [ByteArray.data_extract]
  apply Array.ext'
  rw [Array.toList_extract]
theorem drop_at {s : ByteArray} {k : Nat} {b : UInt8} (h : s.data.toList[k]? = some b) : s.data.toList.drop k = b :: s.data.toList.drop (k + 1) := by
  obtain ⟨h1, h2⟩ := List.getElem?_eq_some_iff.1 h
  rw [List.drop_eq_getElem_cons h1, h2]
theorem take_more {s : ByteArray} {f k : Nat} {b : UInt8} (h : s.data.toList[k]? = some b) (hf : f ≤ k) : (s.data.toList.drop f).take (k - f) ++ [b] = (s.data.toList.drop f).take (k + 1 - f) := by
  rw [show k + 1 - f = k - f + 1 by omega, List.take_add_one, List.getElem?_drop, show f + (k - f) = k by omega, h]
  rfl
end Go.Ks
namespace Go.Proofs.YtikonccofaiceaaDoor
open Go.RowKit Go.Lib Go.Ks
theorem Tryd.infoTx : (Tryd.prog.info? 9).map (fun i => (i.zero, i.size, i.bytes)) = some (some (.string ⟨#[]⟩), 1, 16) := by kernel_rfl
set_option maxRecDepth 100000 in
set_option maxHeartbeats 2000000 in
theorem l01Split_any (s : ByteArray) (c : UInt8) (hs : s.size ≤ 1048576) (w : World) :
    Calls Tryd.prog 93 #[.string s, .int .u8 (c.toNat : Int)] w fun e w' => (∃ v, e = .returned v ∧ Row w' w.heap.size 9 1 v (splitC c s.data.toList).length (wdC (splitC c s.data.toList)) ∧ (splitC c s.data.toList).length ≤ s.size + 1) ∧ Below w.heap.size w w' := by
  have hs' : (s.size : Int) ≤ 1048576 := by omega
  obtain ⟨i0, hi, hz0, hz1, hz2⟩ := info_parts Tryd.infoTx
  go_enter Tryd.func93, Tryd.ntmps93
  go_wp2_with fail
  generalize hV : World.alloc w _ = w1
  have hb1 : Below w.heap.size w w1 := by rw [← hV]; exact (Below.refl _ _).alloc (Nat.le_refl _) _
  have r1 : Row w1 w.heap.size 9 1 (.slice (some ⟨w.heap.size, 0, none⟩) 0 0) 0 (wdC []) := by rw [← hV]; exact Row.empty w _ _ _ (Nat.le_refl _)
  clear hV
  go_loopw [5, 6, 7] (fun v f i wr => ∃ (k g : Nat) (ds : List (List UInt8)), g ≤ k ∧ k ≤ s.size ∧ i = .int .i64 (k : Int) ∧ f = .int .i64 (g : Int) ∧ ds.length ≤ k ∧ splitC c s.data.toList = ds ++ consH ((s.data.toList.drop g).take (k - g)) (splitC c (s.data.toList.drop k)) ∧ Row wr w.heap.size 9 1 v ds.length (wdC ds) ∧ Below w.heap.size w wr) (fun _ _ i _ => s.size - (RowKit.intOf i).toNat)
  case atStart => exact ⟨0, 0, [], Nat.le_refl _, Nat.zero_le _, rfl, rfl, Nat.le_refl _, by rw [List.nil_append, Nat.sub_zero, List.take_zero, List.drop_zero, consH_nil], r1, hb1⟩
  case round =>
    obtain ⟨k, g, ds, hgk, hk, rfl, rfl, hds, hsp, row, hbl⟩ := hrel
    have HSP := Lib.hid hsp
    clear hsp
    have bsz := hbl.size
    by_cases hlt : k < s.size
    · have hbk := bt_at hlt
      obtain ⟨b, hb, hb2⟩ := list_bt hlt
      by_cases q : b = c
      · subst q
        have hq : bt s k = (b.toNat : Int) := hb2
        have P := Lib.hid (show splitC b s.data.toList = (ds ++ [(s.data.toList.drop g).take (k - g)]) ++ consH ((s.data.toList.drop (k + 1)).take (k + 1 - (k + 1))) (splitC b (s.data.toList.drop (k + 1))) by
          rw [HSP.out, drop_at hb, consH_hit, Nat.sub_self, List.take_zero, consH_nil, List.append_assoc]; rfl)
        clear hb hb2
        rw [hq] at hbk
        clear hq
        have row7 := row.congr (f' := wdC (ds ++ [(s.data.toList.drop g).take (k - g)])) (fun j hj => wdC_old (by omega))
        go_wp2_with (at_builtin; refine wpList_append_row rfl _ _ 82 rfl w.heap.size 9 i0 _ 1 16 Tryd.underlying82 hi hz0 hz1 hz2 rfl (by decide) _ ds.length (wdC (ds ++ [(s.data.toList.drop g).take (k - g)])) rfl (row7.alloc _) wr.heap.size 1 rfl ?c1 (wd_one _ _) ?c3 ?c4 ?c5 ?_)
        case c1 => exact wd_news (Blk.new wr _ _) (ext_list s _ _)
        case c3 => omega
        case c4 => omega
        case c5 => first | omega | (simp; omega)
        intro v' w7 row8 hg7
        have gw7 := Row.after (hbl.alloc bsz _) (Nat.le_refl _) (by simp; omega) (row7.alloc _) hg7 row8
        clear hg7 row7
        go_wp2_with fail
        go_roundw
        case rel => exact ⟨k + 1, k + 1, ds ++ [(s.data.toList.drop g).take (k - g)], Nat.le_refl _, by omega, by go_num, by go_num, by simp; omega, P.out, by rw [List.length_append]; exact row8, gw7⟩
        case measure => simp [RowKit.intOf]; omega
      · have hq : (bt s k == (c.toNat : Int)) = false := by
          refine beq_eq_false_iff_ne.2 (fun e => q (UInt8.toNat_inj.1 ?_))
          omega
        have P := Lib.hid (show splitC c s.data.toList = ds ++ consH ((s.data.toList.drop g).take (k + 1 - g)) (splitC c (s.data.toList.drop (k + 1))) by
          rw [HSP.out, drop_at hb, consH_miss q, take_more hb hgk])
        clear hb hb2 q
        go_wp2_with fail
        go_roundw
        case rel => exact ⟨k + 1, g, ds, by omega, by omega, by go_num, rfl, by omega, P.out, row, hbl⟩
        case measure => simp [RowKit.intOf]; omega
    · obtain rfl : k = s.size := by omega
      have P := Lib.hid (show splitC c s.data.toList = ds ++ [(s.data.toList.drop g).take (s.size - g)] by
        rw [HSP.out, show s.data.toList.drop s.size = [] from List.drop_of_length_le (by rw [list_len]; exact Nat.le_refl _)]
        simp [consH, splitC])
      have row7 := row.congr (f' := wdC (ds ++ [(s.data.toList.drop g).take (s.size - g)])) (fun j hj => wdC_old (by omega))
      go_wp2_with (at_builtin; refine wpList_append_row rfl _ _ 82 rfl w.heap.size 9 i0 _ 1 16 Tryd.underlying82 hi hz0 hz1 hz2 rfl (by decide) _ ds.length (wdC (ds ++ [(s.data.toList.drop g).take (s.size - g)])) rfl (row7.alloc _) wr.heap.size 1 rfl ?c1 (wd_one _ _) ?c3 ?c4 ?c5 ?_)
      case c1 => exact wd_news (Blk.new wr _ _) (ext_list s _ _)
      case c3 => omega
      case c4 => omega
      case c5 => first | omega | (simp; omega)
      intro v' w7 row8 hg7
      have gw7 := Row.after (hbl.alloc bsz _) (Nat.le_refl _) (by simp; omega) (row7.alloc _) hg7 row8
      clear hg7 row7
      go_wp2_with fail
      go_ret
      refine ⟨⟨_, rfl, ?_, ?_⟩, gw7⟩
      · rw [P.out, List.length_append]; exact row8
      · rw [P.out, List.length_append, List.length_singleton]; omega
end Go.Proofs.YtikonccofaiceaaDoor
