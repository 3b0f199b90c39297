/- Words of texts: general facts, and the contracts on them. Conditions: the size of a text; the library's variables lie. -/
import Derived.Test.YthjllledhcfnhaaGreatDoorReadImpl
namespace Go.Ks.Tx
open Go.RowKit Go.Lib
theorem itoa_chars (n : Int) : ∀ b ∈ Lib.itoa n, b = 45 ∨ isDg b := fun b hb => by
  unfold Lib.itoa at hb
  split at hb
  · rcases List.mem_cons.1 hb with h | h
    · exact .inl h
    · exact .inr (dd_dg _ b h)
  · exact .inr (dd_dg _ b hb)
theorem itoa_not {c : UInt8} (h : c ≠ 45) (h2 : ¬ isDg c) (n : Int) : c ∉ Lib.itoa n := fun hc => by
  rcases itoa_chars n c hc with e | e
  · exact h e
  · exact h2 e
theorem itoa_32 (n : Int) : (32 : UInt8) ∉ Lib.itoa n := itoa_not (by decide) (by decide) n
theorem itoa_44 (n : Int) : (44 : UInt8) ∉ Lib.itoa n := itoa_not (by decide) (by decide) n
theorem itoa_120 (n : Int) : (120 : UInt8) ∉ Lib.itoa n := itoa_not (by decide) (by decide) n
theorem itoa_ne (n : Int) : Lib.itoa n ≠ [] := fun e => by
  unfold Lib.itoa at e
  split at e
  · cases e
  · obtain ⟨b, l, h, _⟩ := dd_ne n.toNat
    rw [h] at e; cases e
theorem itoa_num {n : Int} (h : -1000000000000000000 < n ∧ n < 1000000000000000000) : numOk (Lib.itoa n) = true ∧ numV (Lib.itoa n) = n := num_yes ⟨h, rfl⟩
theorem splitC_le {c : UInt8} : ∀ (l : List UInt8), ∀ x ∈ splitC c l, x.length ≤ l.length
  | [], x, h => by simp [splitC] at h; subst h; simp
  | b :: l, x, h => by
    obtain ⟨y, t, e⟩ := splitC_cons c l
    rw [splitC] at h
    split at h
    · rcases List.mem_cons.1 h with rfl | h
      · simp
      · have := splitC_le l x h
        rw [List.length_cons]; omega
    · rw [e] at h
      rcases List.mem_cons.1 h with rfl | h
      · have := splitC_le (c := c) l y (by rw [e]; simp)
        simp only [List.headD_cons, List.length_cons]; omega
      · have := splitC_le (c := c) l x (by rw [e]; exact List.mem_cons_of_mem _ h)
        rw [List.length_cons]; omega
theorem getD_le {c : UInt8} (l : List UInt8) (k : Nat) : ((splitC c l).getD k []).length ≤ l.length := by
  rw [List.getD_eq_getElem?_getD]
  cases h : (splitC c l)[k]? with
  | none => simp
  | some x => exact splitC_le l x (List.mem_of_getElem? h)
theorem parts_two {l : List (List UInt8)} (h : l.length = 2) : ∃ a b, l = [a, b] := by
  match l, h with
  | [a, b], _ => exact ⟨a, b, rfl⟩
theorem parts_five {l : List (List UInt8)} (h : l.length = 5) : ∃ a b c d e, l = [a, b, c, d, e] := by
  match l, h with
  | [a, b, c, d, e], _ => exact ⟨a, b, c, d, e, rfl⟩
theorem bytes_size (p : List UInt8) : (⟨p.toArray⟩ : ByteArray).size = p.length := List.size_toArray
theorem bytes_list (p : List UInt8) : (⟨p.toArray⟩ : ByteArray).data.toList = p := by simp
theorem cut_len (c : UInt8) (p : List UInt8) : (Lib.cut p [c]).1.length ≤ p.length ∧ (Lib.cut p [c]).2.1.length ≤ p.length := by
  unfold Lib.cut
  split
  · simp only [List.length_take, List.length_drop]; omega
  · simp
/-- a text cut in two at a byte that comes once -/
theorem split_two {c : UInt8} {a b : List UInt8} (ha : c ∉ a) (hb : c ∉ b) : splitC c (a ++ c :: b) = [a, b] := by rw [splitC_app ha, splitC_none hb]
theorem two_join {c : UInt8} {l a b : List UInt8} (h : splitC c l = [a, b]) : l = a ++ c :: b := by
  have hj := join_splitC c l
  rw [h, Lib.join_cons] at hj
  rw [← hj]
  simp [Lib.joinTail]
theorem text_eq {a b : ByteArray} (h : a.data.toList = b.data.toList) : a = b := ByteArray.ext (Array.ext' h)
theorem text_list (a b : ByteArray) : (a ++ b).data.toList = a.data.toList ++ b.data.toList := by rw [ByteArray.data_append]; simp
theorem dec_list (n : Int) : (decB n).data.toList = Lib.itoa n := by simp [decB]
end Go.Ks.Tx
namespace Go.Proofs.YthjllledhcfnhaaGreatDoor.Tx
open Go.RowKit Go.Lib Go.Ks Go.Ks.Tx
/-- a word's cell in a list of texts of the call's own -/
theorem own_word {w : World} {base : Nat} {A : Option Addr} {ws : List (List UInt8)} {n : Nat} (h : Own w base 9 1 A (n + 1) (wdC ws)) : ∃ B, A = some ⟨B, 0, none⟩ ∧ B < w.heap.size ∧ ∀ (w' : World) (j : Nat), Below w.heap.size w w' → j < n + 1 → w'.cell? ⟨B, j, none⟩ = some (.string ⟨(ws.getD j []).toArray⟩) := by
  rcases h with ⟨_, h0⟩ | ⟨B, ms, h0, rfl, hB, hk, hms, hh⟩
  · omega
  refine ⟨B, rfl, hk.lt, fun w' j hb hj => ?_⟩
  have k := hk.below hb hk.lt
  rw [k.cell, arr_get _ _ _ (by omega), hh _ (by omega)]
  rfl
theorem word_size {s : ByteArray} {c : UInt8} {k : Nat} (hs : s.size ≤ 1048576) : (⟨((splitC c s.data.toList).getD k []).toArray⟩ : ByteArray).size ≤ 1048576 := by
  have := getD_le (c := c) s.data.toList k
  rw [list_len] at this
  rw [bytes_size]
  omega
theorem sl_two {w : World} {B : Nat} {t : TypeId} {p0 p1 : List UInt8} (h : Blk w B t #[.string ⟨p0.toArray⟩, .string ⟨p1.toArray⟩]) : Sl w (some ⟨B, 0, none⟩) (2 * 1) (wdC [p0, p1]) :=
  h.sl (fun j hj => by
    match j, hj with
    | 0, _ => rfl
    | 1, _ => rfl)
theorem cutc_any (c : UInt8) (p : List UInt8) (hp : p.length ≤ 1048576) (w : World) (hT : LibV w) :
    Calls Tryz.prog 40 #[.string ⟨p.toArray⟩, .string ⟨#[c]⟩] w fun e w' => e = .returned (.tuple #[.string ⟨(Lib.cut p [c]).1.toArray⟩, .string ⟨(Lib.cut p [c]).2.1.toArray⟩, .bool (Lib.cut p [c]).2.2]) ∧ Below w.heap.size w w' := by
  obtain ⟨_, ⟨m, hm⟩, _⟩ := hT
  have h := Tryz.strings_Cut ⟨p.toArray⟩ ⟨#[c]⟩ m w (by rw [bytes_size]; omega) hm
  rw [bytes_list, show (⟨#[c]⟩ : ByteArray).data.toList = [c] from rfl] at h
  refine h.mono ?_
  rintro e w' ⟨rfl, n, rfl⟩
  exact ⟨rfl, ⟨rfl, rfl, rfl, Nat.le_refl _, fun _ _ => rfl⟩⟩
theorem splitc_any (c : UInt8) (p : List UInt8) (hp : p.length ≤ 1048576) (w : World) (hT : LibV w) :
    Calls Tryz.prog 77 #[.string ⟨p.toArray⟩, .string ⟨#[c]⟩] w fun e w' => e = .returned (.slice (some ⟨w.heap.size, 0, none⟩) (splitC c p).length (splitC c p).length) ∧ Blk w' w.heap.size 9 (arr (splitC c p).length (wdC (splitC c p))) ∧ Below w.heap.size w w' := by
  obtain ⟨_, ⟨m, hm⟩, _⟩ := hT
  refine (Tryz.strings_Split ⟨p.toArray⟩ ⟨#[c]⟩ m w (by rw [bytes_size]; omega) hm (by show 1 ≤ 1; decide)).mono ?_
  rintro e w' ⟨rfl, rfl⟩
  have h1 := splitB_one c ⟨p.toArray⟩
  have h2 := splitB_all ⟨#[c]⟩ (by show 1 ≤ 1; decide) 0 _ ⟨p.toArray⟩ rfl
  rw [bytes_list] at h1
  rw [h1, List.length_map] at h2
  rw [h1, arr_words, ← h2]
  exact ⟨rfl, Blk.new w _ _, (Below.refl _ _).alloc (Nat.le_refl _) _⟩
theorem words_le : ∀ l : List UInt8, ((splitC 32 l).filter (fun x => decide (x ≠ []))).length ≤ l.length
  | [] => by simp [splitC]
  | b :: l => by
    have ih := words_le l
    obtain ⟨y, t, e⟩ := splitC_cons 32 l
    rw [splitC]
    rw [e] at ih ⊢
    split
    · rw [List.filter_cons_of_neg (by simp)]
      rw [List.length_cons]; omega
    · rw [List.tail_cons, List.filter_cons_of_pos (by simp), List.length_cons, List.length_cons]
      have h2 : (t.filter (fun x => decide (x ≠ []))).length ≤ ((y :: t).filter (fun x => decide (x ≠ []))).length := by
        rw [List.filter_cons]
        split
        · rw [List.length_cons]; omega
        · omega
      omega
theorem wordsOf_le (s : ByteArray) : (wordsOf s.data.toList).length ≤ s.size := words_le _
theorem wordsOf_len (s : ByteArray) (k : Nat) : ((wordsOf s.data.toList).getD k []).length ≤ s.size := by
  rw [List.getD_eq_getElem?_getD]
  cases h : (wordsOf s.data.toList)[k]? with
  | none => simp
  | some x =>
    have hx := List.mem_of_getElem? h
    unfold wordsOf at hx
    exact splitC_le s.data.toList x (List.mem_filter.1 hx).1
/-- where no part is empty the words are the parts -/
theorem words_full {l : List UInt8} (h : ∀ x ∈ splitC 32 l, x ≠ []) : wordsOf l = splitC 32 l := by
  unfold wordsOf
  rw [List.filter_eq_self]
  exact fun x hx => decide_eq_true (h x hx)
end Go.Proofs.YthjllledhcfnhaaGreatDoor.Tx
