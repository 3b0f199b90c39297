/- Texts taken apart: parts between a byte, numerals. Plain Lean, no program. -/
import Derived.Test.YthjllledhcfnhaaGreatDoorBase
import Derived.Lib.SplitLaws
import Derived.Lib.ItoaMem
import Derived.Lib.ParseIntBCases
import Derived.Lib.IndexMore
import Derived.Lib.Join
namespace Go.Ks
open Go.RowKit Go.Lib
/-- the parts of a text between the bytes c -/
def splitC (c : UInt8) : List UInt8 → List (List UInt8)
  | [] => [[]]
  | b :: l => if b = c then [] :: splitC c l else (b :: (splitC c l).headD []) :: (splitC c l).tail
/-- the first part made longer -/
def consH (p : List UInt8) (x : List (List UInt8)) : List (List UInt8) := (p ++ x.headD []) :: x.tail
theorem splitC_cons (c : UInt8) : ∀ l, ∃ h t, splitC c l = h :: t
  | [] => ⟨[], [], rfl⟩
  | b :: l => by
    unfold splitC
    split
    · exact ⟨_, _, rfl⟩
    · exact ⟨_, _, rfl⟩
theorem consH_nil (c : UInt8) (l : List UInt8) : consH [] (splitC c l) = splitC c l := by
  obtain ⟨h, t, e⟩ := splitC_cons c l
  rw [e]; rfl
theorem consH_hit {c : UInt8} (p l : List UInt8) : consH p (splitC c (c :: l)) = p :: splitC c l := by
  rw [splitC, if_pos rfl]; simp [consH]
theorem consH_miss {b c : UInt8} (h : b ≠ c) (p l : List UInt8) : consH p (splitC c (b :: l)) = consH (p ++ [b]) (splitC c l) := by
  rw [splitC, if_neg h]; simp [consH]
theorem splitC_none {c : UInt8} : ∀ {l : List UInt8}, c ∉ l → splitC c l = [l]
  | [], _ => rfl
  | b :: l, h => by
    rw [splitC, if_neg (fun e => h (by simp [e])), splitC_none (l := l) (fun e => h (by simp [e]))]
    rfl
theorem splitC_app {c : UInt8} {a l : List UInt8} (h : c ∉ a) : splitC c (a ++ c :: l) = a :: splitC c l := by
  induction a with
  | nil => rw [List.nil_append, splitC, if_pos rfl]
  | cons b a ih => rw [List.cons_append, splitC, if_neg (fun e => h (by simp [e])), ih (fun e => h (by simp [e]))]; rfl
/-- the parts joined again are the text -/
theorem join_splitC (c : UInt8) : ∀ l, Lib.join (splitC c l) [c] = l
  | [] => Lib.join_one _ _
  | b :: l => by
    have ih := join_splitC c l
    obtain ⟨h, t, e⟩ := splitC_cons c l
    rw [splitC]
    rw [e, Lib.join_cons] at ih
    split
    · rename_i hb
      subst hb
      rw [e, Lib.join_cons]
      simp only [Lib.joinTail, List.map_cons, List.flatten_cons, List.nil_append] at ih ⊢
      rw [← ih]
      simp
    · rw [e, Lib.join_cons]
      simp only [List.headD_cons, List.tail_cons, List.cons_append]
      rw [ih]
theorem splitC_mem {c : UInt8} : ∀ {l x : List UInt8}, x ∈ splitC c l → c ∉ x
  | [], x, h => by simp [splitC] at h; subst h; simp
  | b :: l, x, h => by
    obtain ⟨y, t, e⟩ := splitC_cons c l
    rw [splitC] at h
    split at h
    · rcases List.mem_cons.1 h with rfl | h
      · simp
      · exact splitC_mem h
    · rename_i hb
      rw [e] at h
      rcases List.mem_cons.1 h with rfl | h
      · have := splitC_mem (c := c) (l := l) (x := y) (by rw [e]; simp)
        simp only [List.headD_cons, List.mem_cons, not_or]
        exact ⟨fun e => hb e.symm, this⟩
      · exact splitC_mem (c := c) (l := l) (by rw [e]; exact List.mem_cons_of_mem _ h)
/-- the parts of words that were joined -/
theorem splitC_join {c : UInt8} : ∀ {x : List UInt8} {t : List (List UInt8)}, c ∉ x → (∀ y ∈ t, c ∉ y) → splitC c (Lib.join (x :: t) [c]) = x :: t
  | x, [], h, _ => by rw [Lib.join_one, splitC_none h]
  | x, y :: t, h, h2 => by
    have ih := splitC_join (c := c) (x := y) (t := t) (h2 y (by simp)) (fun z hz => h2 z (by simp [hz]))
    have e : Lib.join (x :: y :: t) [c] = x ++ c :: Lib.join (y :: t) [c] := by
      rw [Lib.join_cons, Lib.join_cons]
      simp [Lib.joinTail]
    rw [e, splitC_app h, ih]
theorem index_cons_ne {b c : UInt8} (l : List UInt8) (h : b ≠ c) : index (b :: l) [c] = if index l [c] == -1 then -1 else index l [c] + 1 := by
  have hp : ([c] : List UInt8).isPrefixOf (b :: l) = false := by simp [List.isPrefixOf, Ne.symm h]
  rw [index, hp]; simp
theorem index_cons_eq (c : UInt8) (l : List UInt8) : index (c :: l) [c] = 0 := by rw [index]; simp [List.isPrefixOf]
theorem index_app {c : UInt8} {a l : List UInt8} (h : c ∉ a) : index (a ++ c :: l) [c] = (a.length : Int) := by
  induction a with
  | nil => exact index_cons_eq c l
  | cons b a ih =>
    rw [List.cons_append, index_cons_ne _ (fun e => h (by simp [e])), ih (fun e => h (by simp [e]))]
    rw [if_neg (by simp)]
    simp
theorem cut_app {c : UInt8} {a l : List UInt8} (h : c ∉ a) : Lib.cut (a ++ c :: l) [c] = (a, l, true) := by
  unfold Lib.cut
  rw [index_app h, if_pos (by omega)]
  simp
/-- the library's pieces are the parts -/
theorem splitK_one (c : UInt8) : ∀ l, splitK [c] 0 (count l [c]) l = splitC c l
  | [] => by rw [count_miss (by simp [index])]; rfl
  | b :: l => by
    have ih := splitK_one c l
    by_cases h : b = c
    · subst h
      rw [count_cons_eq, Nat.add_comm, splitK, index_cons_eq, splitC, if_pos rfl]
      simp [ih]
    · rw [count_cons_ne b c l h, splitC, if_neg h, ← ih]
      cases hk : count l [c] with
      | zero => rfl
      | succ k =>
        rw [splitK, splitK, index_cons_ne l h]
        by_cases hm : index l [c] == -1
        · have hm2 := beq_iff_eq.1 hm
          simp [hm2]
        · rw [if_neg hm, if_neg hm]
          have hge := index_ge l [c]
          have hm' : index l [c] ≠ -1 := fun e => hm (beq_iff_eq.2 e)
          obtain ⟨j, hj⟩ : ∃ j : Nat, index l [c] = j := ⟨(index l [c]).toNat, by omega⟩
          rw [hj]
          rw [if_neg (by simp; omega)]
          have e1 : ((j : Int) + 1).toNat = j + 1 := by omega
          have e2 : ((j : Int)).toNat = j := by omega
          simp [e1]
theorem ofList_data (s : ByteArray) : (⟨s.data.toList.toArray⟩ : ByteArray) = s := by apply ByteArray.ext; simp
theorem splitB_one (c : UInt8) (s : ByteArray) : splitB ⟨#[c]⟩ 0 (countB s ⟨#[c]⟩) s = (splitC c s.data.toList).map (fun l => ⟨l.toArray⟩) := by
  have h := splitB_data ⟨#[c]⟩ 0 (countB s ⟨#[c]⟩) s
  have e : (splitB ⟨#[c]⟩ 0 (countB s ⟨#[c]⟩) s) = ((splitB ⟨#[c]⟩ 0 (countB s ⟨#[c]⟩) s).map (·.data.toList)).map (fun l => ⟨l.toArray⟩) := by
    rw [List.map_map]
    conv => lhs; rw [← List.map_id (splitB ⟨#[c]⟩ 0 (countB s ⟨#[c]⟩) s)]
    exact List.map_congr_left (fun x _ => (ofList_data x).symm)
  rw [e, h]
  exact congrArg _ (splitK_one c _)
/-! numerals -/
def isDg (b : UInt8) : Prop := 48 ≤ b.toNat ∧ b.toNat ≤ 57
instance (b : UInt8) : Decidable (isDg b) := by unfold isDg; infer_instance
def valD (l : List UInt8) : Nat := l.foldl (fun a b => 10 * a + (b.toNat - 48)) 0
theorem valD_snoc (l : List UInt8) (b : UInt8) : valD (l ++ [b]) = 10 * valD l + (b.toNat - 48) := by simp [valD]
theorem dg_nat {d : Nat} (h : d < 10) : (UInt8.ofNat (48 + d)).toNat = 48 + d := by rw [UInt8.toNat_ofNat']; omega
theorem dd_ge {u : Nat} (h : ¬ u < 10) : decDigits u = decDigits (u / 10) ++ [UInt8.ofNat (48 + u % 10)] := by rw [decDigits, dif_neg h]
theorem dd_val : ∀ u, valD (decDigits u) = u := fun u => by
  induction u using Nat.strongRecOn with
  | _ u ih =>
    by_cases h : u < 10
    · rw [decDigits_one h]; simp [valD]; omega
    · rw [dd_ge h, valD_snoc, ih (u / 10) (by omega), dg_nat (by omega)]; omega
theorem dd_dg : ∀ u, ∀ b ∈ decDigits u, isDg b := fun u => by
  induction u using Nat.strongRecOn with
  | _ u ih =>
    intro b hb
    by_cases h : u < 10
    · rw [decDigits_one h] at hb
      simp at hb
      subst hb
      unfold isDg
      rw [UInt8.toNat_add]
      simp
      omega
    · rw [dd_ge h] at hb
      rcases List.mem_append.1 hb with hb | hb
      · exact ih (u / 10) (by omega) b hb
      · simp only [List.mem_singleton] at hb
        subst hb
        unfold isDg
        rw [dg_nat (by omega)]
        omega
theorem dd_ne (u : Nat) : ∃ b l, decDigits u = b :: l ∧ (u ≠ 0 → b.toNat ≠ 48) := by
  induction u using Nat.strongRecOn with
  | _ u ih =>
    by_cases h : u < 10
    · refine ⟨_, _, decDigits_one h, fun h0 => ?_⟩
      rw [dg_nat h]; omega
    · obtain ⟨b, l, e, h1⟩ := ih (u / 10) (by omega)
      exact ⟨b, l ++ [UInt8.ofNat (48 + u % 10)], by rw [dd_ge h, e]; rfl, fun _ => h1 (by omega)⟩
theorem dd_len {u k : Nat} (h : u < 10 ^ (k + 1)) : (decDigits u).length ≤ k + 1 := by
  rw [decDigits_length]
  induction k generalizing u with
  | zero => rw [nDigits_small (by simpa using h)]; omega
  | succ k ih =>
    by_cases h1 : u < 10
    · rw [nDigits_small h1]; omega
    · have := ih (u := u / 10) (by rw [Nat.pow_succ] at h; omega)
      rw [nDigits_big h1]; omega
theorem snoc_ind {P : List UInt8 → Prop} (h0 : P []) (h1 : ∀ l b, P l → P (l ++ [b])) (l : List UInt8) : P l := by
  rw [← l.reverse_reverse]
  induction l.reverse with
  | nil => exact h0
  | cons b t ih => rw [List.reverse_cons]; exact h1 _ _ ih
theorem valD_lt (l : List UInt8) (h : ∀ b ∈ l, isDg b) : valD l < 10 ^ l.length := by
  revert h
  refine snoc_ind (P := fun l => (∀ b ∈ l, isDg b) → valD l < 10 ^ l.length) (fun _ => by simp [valD]) (fun l b ih h => ?_) l
  · have h1 := ih (fun x hx => h x (by simp [hx]))
    have h2 := h b (by simp)
    unfold isDg at h2
    rw [valD_snoc, List.length_append, List.length_singleton, Nat.pow_succ]
    omega
/-- digits without a zero ahead are a numeral -/
theorem dd_of (l : List UInt8) (h : ∀ b ∈ l, isDg b) (hn : l ≠ []) (h0 : l.length = 1 ∨ ∀ b t, l = b :: t → b.toNat ≠ 48) : decDigits (valD l) = l := by
  revert h hn h0
  refine snoc_ind (P := fun l => (∀ b ∈ l, isDg b) → l ≠ [] → (l.length = 1 ∨ ∀ b t, l = b :: t → b.toNat ≠ 48) → decDigits (valD l) = l) (fun _ hn => absurd rfl hn) (fun l b ih h hn h0 => ?_) l
  · have h2 := h b (by simp)
    unfold isDg at h2
    have e : UInt8.ofNat (48 + (b.toNat - 48)) = b := by rw [show 48 + (b.toNat - 48) = b.toNat by omega]; exact UInt8.ofNat_toNat
    by_cases hl : l = []
    · subst hl
      rw [valD_snoc]
      simp only [valD, List.foldl_nil, Nat.mul_zero, Nat.zero_add, List.nil_append]
      rw [decDigits_one (by omega), e]
    · have hh : ∀ c t, l = c :: t → c.toNat ≠ 48 := fun c t e => by
        rcases h0 with h0 | h0
        · rw [List.length_append, List.length_singleton] at h0
          exact absurd (List.eq_nil_of_length_eq_zero (by omega)) hl
        · exact h0 c (t ++ [b]) (by rw [e]; rfl)
      have ih := ih (fun x hx => h x (by simp [hx])) hl (.inr hh)
      have hv : valD l ≠ 0 := fun e => by
        rw [e] at ih
        rw [show decDigits 0 = [48] from decDigits_one (by decide)] at ih
        exact hh 48 [] ih.symm rfl
      rw [valD_snoc, dd_ge (by omega), show (10 * valD l + (b.toNat - 48)) / 10 = valD l by omega, show (10 * valD l + (b.toNat - 48)) % 10 = b.toNat - 48 by omega, e, ih]
/-- a number of at most 18 digits with this numeral -/
def IsNum (l : List UInt8) (n : Int) : Prop := (-1000000000000000000 < n ∧ n < 1000000000000000000) ∧ Lib.itoa n = l
theorem itoa_inj {n m : Int} (h : Lib.itoa n = Lib.itoa m) : n = m := by
  unfold Lib.itoa at h
  have hd : ∀ u v, decDigits u = decDigits v → u = v := fun u v e => by rw [← dd_val u, e, dd_val]
  have hc : ∀ u v, (45 : UInt8) :: decDigits u ≠ decDigits v := fun u v e => by
    have := dd_dg v 45 (by rw [← e]; simp)
    revert this; decide
  split at h <;> split at h
  · injection h with _ h
    have := hd _ _ h
    omega
  · exact absurd h (hc _ _)
  · exact absurd h.symm (hc _ _)
  · have := hd _ _ h
    omega
theorem IsNum.uniq {l : List UInt8} {n m : Int} (h : IsNum l n) (h' : IsNum l m) : n = m := itoa_inj (h.2.trans h'.2.symm)
open Classical in
noncomputable def numOk (l : List UInt8) : Bool := if ∃ n, IsNum l n then true else false
open Classical in
noncomputable def numV (l : List UInt8) : Int := if h : ∃ n, IsNum l n then h.choose else 0
theorem num_yes {l : List UInt8} {n : Int} (h : IsNum l n) : numOk l = true ∧ numV l = n := by
  have hx : ∃ n, IsNum l n := ⟨n, h⟩
  refine ⟨if_pos hx, ?_⟩
  unfold numV
  rw [dif_pos hx]
  exact hx.choose_spec.uniq h
theorem num_no {l : List UInt8} (h : ∀ n, ¬ IsNum l n) : numOk l = false ∧ numV l = 0 := by
  have hx : ¬ ∃ n, IsNum l n := fun ⟨n, hn⟩ => h n hn
  exact ⟨if_neg hx, by unfold numV; rw [dif_neg hx]⟩
theorem num_of {l : List UInt8} (h : numOk l = true) : IsNum l (numV l) := by
  have hx : ∃ n, IsNum l n := by
    refine Classical.byContradiction (fun q => ?_)
    unfold numOk at h
    rw [if_neg q] at h
    cases h
  unfold numV
  rw [dif_pos hx]
  exact hx.choose_spec
/-- what a numeral looks like -/
theorem num_look {l : List UInt8} {n : Int} (h : IsNum l n) : ∃ (sg : Bool) (t : List UInt8), l = (if sg then 45 :: t else t) ∧ (∀ b ∈ t, isDg b) ∧ 1 ≤ t.length ∧ t.length ≤ 18 ∧ n = (if sg then -(valD t : Int) else (valD t : Int)) ∧ (∃ b r, t = b :: r ∧ (b.toNat = 48 → sg = false ∧ r = [])) := by
  obtain ⟨⟨h1, h2⟩, h3⟩ := h
  by_cases q : n < 0
  · obtain ⟨b, r, e, h0⟩ := dd_ne n.natAbs
    refine ⟨true, decDigits n.natAbs, ?_, dd_dg _, by rw [e]; simp, dd_len (k := 17) (by omega), ?_, b, r, e, fun hb => absurd hb (h0 (by omega))⟩
    · rw [← h3]; unfold Lib.itoa; rw [if_pos q]; rfl
    · rw [dd_val, if_pos rfl]; omega
  · obtain ⟨b, r, e, h0⟩ := dd_ne n.toNat
    refine ⟨false, decDigits n.toNat, ?_, dd_dg _, by rw [e]; simp, dd_len (k := 17) (by omega), ?_, b, r, e, fun hb => ⟨rfl, ?_⟩⟩
    · rw [← h3]; unfold Lib.itoa; rw [if_neg q]; rfl
    · rw [dd_val, if_neg (by decide)]; omega
    · by_cases hz : n.toNat = 0
      · rw [hz, decDigits_one (by decide)] at e
        injection e with _ e
        exact e.symm
      · exact absurd hb (h0 hz)
/-- what looks like a numeral is one -/
theorem num_make {t : List UInt8} (hd : ∀ b ∈ t, isDg b) (hn : 1 ≤ t.length) (hl : t.length ≤ 18) (sg : Bool) (h0 : ∀ b r, t = b :: r → b.toNat = 48 → sg = false ∧ r = []) : IsNum (if sg then 45 :: t else t) (if sg then -(valD t : Int) else (valD t : Int)) := by
  have hne : t ≠ [] := fun e => by subst e; simp at hn
  have hlt := valD_lt t hd
  have hp : (10 : Nat) ^ t.length ≤ 10 ^ 18 := Nat.pow_le_pow_right (by decide) hl
  have hdd : decDigits (valD t) = t := dd_of t hd hne (by
    by_cases q : t.length = 1
    · exact .inl q
    · refine .inr (fun b r e hb => ?_)
      have := (h0 b r e hb).2
      subst this
      rw [e] at q
      exact q rfl)
  cases sg
  · refine ⟨⟨by simp; omega, by simp; omega⟩, ?_⟩
    simp only [Bool.false_eq_true, if_false]
    rw [itoa_nonneg, hdd]
  · have hv : 1 ≤ valD t := by
      refine Nat.pos_of_ne_zero (fun e => ?_)
      rw [e, decDigits_one (by decide)] at hdd
      have := h0 48 [] hdd.symm rfl
      cases this.1
    refine ⟨⟨by simp; omega, by simp; omega⟩, ?_⟩
    simp only [if_true]
    rw [itoa_neg _ hv, hdd]
theorem parseM_ok : ∀ (l : List UInt8) (acc : Nat), (∀ b ∈ l, isDg b) → (acc + 1) * 10 ^ l.length ≤ 10 ^ 18 → parseUintM 18446744073709551615 acc l = .ok (l.foldl (fun a b => 10 * a + (b.toNat - 48)) acc)
  | [], acc, _, _ => rfl
  | b :: l, acc, h, hb => by
    have h1 := h b (by simp)
    have h1' : 48 ≤ b.toNat ∧ b.toNat ≤ 57 := h1
    have hp : 1 ≤ 10 ^ l.length := Nat.one_le_pow _ _ (by decide)
    rw [List.length_cons, Nat.pow_succ] at hb
    have h2 : (acc + 1) * 10 * 10 ^ l.length ≤ 10 ^ 18 := by rw [Nat.mul_assoc, Nat.mul_comm 10]; exact hb
    have h3 : (acc + 1) * 10 ≤ 10 ^ 18 := Nat.le_trans (Nat.le_mul_of_pos_right _ hp) h2
    rw [parseUintM, if_pos h1', if_neg (by omega), if_neg (by omega)]
    rw [parseM_ok l _ (fun x hx => h x (by simp [hx])) (Nat.le_trans (Nat.mul_le_mul_right _ (by omega)) h2)]
    rw [List.foldl_cons, Nat.mul_comm acc 10]
/-- the library's reader reads a numeral -/
theorem parse_num {l : List UInt8} {n : Int} (h : IsNum l n) : parseIntB 64 l = .ok n := by
  obtain ⟨sg, t, rfl, hd, h1, h2, rfl, b, r, rfl, _⟩ := num_look h
  have hM : parseUintB 64 (b :: r) = .ok (valD (b :: r)) := by
    unfold parseUintB
    rw [if_neg (by simp)]
    have hp : (10 : Nat) ^ (b :: r).length ≤ 10 ^ 18 := Nat.pow_le_pow_right (by decide) h2
    exact parseM_ok (b :: r) 0 hd (by omega)
  have hlt := valD_lt _ hd
  have hp : (10 : Nat) ^ (b :: r).length ≤ 10 ^ 18 := Nat.pow_le_pow_right (by decide) h2
  have hb := hd b (by simp)
  unfold isDg at hb
  generalize valD (b :: r) = v at *
  cases sg
  · simp only [Bool.false_eq_true, if_false]
    unfold parseIntB
    simp only
    rw [if_neg (by omega), hM]
    simp only
    rw [if_neg (by omega), if_neg (by omega), if_neg (by omega)]
  · simp only [if_true]
    unfold parseIntB
    simp only
    rw [if_pos (.inr rfl), hM]
    simp only
    rw [if_neg (by simp), if_neg (by omega), if_pos (by decide)]
end Go.Ks
