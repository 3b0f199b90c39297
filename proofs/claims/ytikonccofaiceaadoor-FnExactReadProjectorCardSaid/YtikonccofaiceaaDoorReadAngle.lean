/- Angles read from texts. Conditions: the size of a text; the library's variables lie. -/
import Derived.Test.YtikonccofaiceaaDoorReadWord
import Derived.Test.YtikonccofaiceaaDoorSmallEq
namespace Go.Ks
open Go.RowKit Go.Lib
/-- the library's reader reads digits with a sign -/
theorem parse_dg {t : List UInt8} (hd : ∀ b ∈ t, isDg b) (h1 : 1 ≤ t.length) (h2 : t.length ≤ 18) (sg : Bool) : parseIntB 64 (if sg then 45 :: t else t) = .ok (if sg then -(valD t : Int) else (valD t : Int)) := by
  obtain ⟨b, r, rfl⟩ : ∃ b r, t = b :: r := by
    cases t with
    | nil => simp at h1
    | cons b r => exact ⟨b, r, rfl⟩
  have hM : parseUintB 64 (b :: r) = .ok (valD (b :: r)) := by
    unfold parseUintB
    rw [if_neg (by simp)]
    have hp : (10 : Nat) ^ (b :: r).length ≤ 10 ^ 18 := Nat.pow_le_pow_right (by decide) h2
    exact parseM_ok (b :: r) 0 hd (by omega)
  have hlt := valD_lt _ hd
  have hp : (10 : Nat) ^ (b :: r).length ≤ 10 ^ 18 := Nat.pow_le_pow_right (by decide) h2
  have hb := hd b (by simp)
  unfold isDg at hb
  generalize valD (b :: r) = v at *
  cases sg
  · simp only [Bool.false_eq_true, if_false]
    unfold parseIntB
    simp only
    rw [if_neg (by omega), hM]
    simp only
    rw [if_neg (by omega), if_neg (by omega), if_neg (by omega)]
  · simp only [if_true]
    unfold parseIntB
    simp only
    rw [if_pos (.inr rfl), hM]
    simp only
    rw [if_neg (by simp), if_neg (by omega), if_pos (by decide)]
theorem valD_zero (l : List UInt8) : valD (48 :: l) = valD l := rfl
theorem valD_app (a b : List UInt8) : valD (a ++ b) = valD a * 10 ^ b.length + valD b := by
  refine snoc_ind (P := fun b => valD (a ++ b) = valD a * 10 ^ b.length + valD b) (by simp [valD]) (fun l x ih => ?_) b
  rw [← List.append_assoc, valD_snoc, ih, valD_snoc, List.length_append, List.length_singleton, Nat.pow_succ, Nat.mul_add]
  rw [show 10 * (valD a * 10 ^ l.length) = valD a * (10 ^ l.length * 10) by rw [Nat.mul_comm (10 ^ l.length), ← Nat.mul_assoc, ← Nat.mul_assoc, Nat.mul_comm 10]]
  omega
/-- three digits -/
theorem pad_list {u : Nat} (h : u < 1000) : ∃ P, (pad3 (decB (u : Int))).data.toList = P ∧ (∀ b ∈ P, isDg b) ∧ P.length = 3 ∧ valD P = u := by
  refine ⟨_, rfl, ?_⟩
  have hs : ∀ l : List UInt8, (decB (u : Int)).data.toList = l → (decB (u : Int)).size = l.length := fun l e => by rw [← e]; rfl
  have hl : (decB (u : Int)).data.toList = decDigits u := by rw [dec_list, itoa_nonneg]
  have hz := hs _ hl
  have hlen : (decDigits u).length ≤ 3 := dd_len (k := 2) (by omega)
  have hpos : 1 ≤ (decDigits u).length := by obtain ⟨b, r, e, _⟩ := dd_ne u; rw [e]; simp
  have hd := dd_dg u
  have hv := dd_val u
  unfold pad3
  rw [hz]
  have h48 : isDg 48 := by decide
  rcases (by omega : (decDigits u).length = 1 ∨ (decDigits u).length = 2 ∨ (decDigits u).length = 3) with e | e | e
  · rw [e]
    simp only [padB, Nat.reduceSub]
    rw [text_list, text_list, hl]
    refine ⟨fun b hb => ?_, by simp [e], by simp only [List.cons_append, List.nil_append]; rw [valD_zero, valD_zero, hv]⟩
    simp only [List.cons_append, List.nil_append, List.mem_cons] at hb
    rcases hb with rfl | rfl | hb
    · exact h48
    · exact h48
    · exact hd b hb
  · rw [e]
    simp only [padB, Nat.reduceSub]
    rw [text_list, hl]
    refine ⟨fun b hb => ?_, by simp [e], by simp only [List.cons_append, List.nil_append]; rw [valD_zero, hv]⟩
    simp only [List.cons_append, List.nil_append, List.mem_cons] at hb
    rcases hb with rfl | hb
    · exact h48
    · exact hd b hb
  · rw [e]
    simp only [padB, Nat.reduceSub]
    rw [hl]
    exact ⟨hd, e, hv⟩
theorem ang_nat {u : Nat} (h : u ≤ 359999) : ∃ D P, (decB ((u : Int) / 1000)).data.toList = D ∧ (pad3 (decB ((u : Int) % 1000))).data.toList = P ∧ (∀ b ∈ D, isDg b) ∧ (∀ b ∈ P, isDg b) ∧ 1 ≤ D.length ∧ D.length ≤ 3 ∧ P.length = 3 ∧ valD (D ++ P) = u := by
  obtain ⟨P, hP, h1, h2, h3⟩ := pad_list (u := u % 1000) (by omega)
  refine ⟨decDigits (u / 1000), P, ?_, by rw [← hP]; rfl, dd_dg _, h1, ?_, dd_len (k := 2) (by omega), h2, ?_⟩
  · rw [dec_list, show (u : Int) / 1000 = ((u / 1000 : Nat) : Int) from rfl, itoa_nonneg]
  · obtain ⟨b, r, e, _⟩ := dd_ne (u / 1000); rw [e]; simp
  · rw [valD_app, dd_val, h2, h3]; omega
/-- the angle with a text -/
def AngIs (l : List UInt8) (a : Int) : Prop := (-359999 ≤ a ∧ a ≤ 359999) ∧ (angB a).data.toList = l
theorem ang_look {l : List UInt8} {a : Int} (h : AngIs l a) : ∃ (sg : Bool) (D P : List UInt8), l = (if sg then 45 :: (D ++ 46 :: P) else D ++ 46 :: P) ∧ (∀ b ∈ D, isDg b) ∧ (∀ b ∈ P, isDg b) ∧ 1 ≤ D.length ∧ D.length ≤ 3 ∧ P.length = 3 ∧ a = (if sg then -(valD (D ++ P) : Int) else (valD (D ++ P) : Int)) := by
  obtain ⟨⟨h1, h2⟩, rfl⟩ := h
  by_cases q : a < 0
  · obtain ⟨u, hu⟩ := Int.eq_ofNat_of_zero_le (by omega : 0 ≤ -a)
    obtain rfl : a = -(u : Int) := by omega
    obtain ⟨D, P, e1, e2, d1, d2, l1, l2, l3, v⟩ := ang_nat (u := u) (by omega)
    refine ⟨true, D, P, ?_, d1, d2, l1, l2, l3, by rw [v]; rfl⟩
    rw [angB_neg' (by omega), text_list, text_list, text_list, e1, e2]
    simp
  · obtain ⟨u, rfl⟩ := Int.eq_ofNat_of_zero_le (by omega : 0 ≤ a)
    obtain ⟨D, P, e1, e2, d1, d2, l1, l2, l3, v⟩ := ang_nat (u := u) (by omega)
    refine ⟨false, D, P, ?_, d1, d2, l1, l2, l3, by rw [v]; rfl⟩
    rw [angB_pos q, text_list, text_list, text_list, e1, e2]
    simp
theorem dg_not {c : UInt8} (h : ¬ isDg c) {l : List UInt8} (hd : ∀ b ∈ l, isDg b) : c ∉ l := fun hc => h (hd c hc)
/-- a text without its points -/
def noDot (l : List UInt8) : List UInt8 := l.filter (fun b => decide (b ≠ 46))
theorem noDot_dg {l : List UInt8} (hd : ∀ b ∈ l, isDg b) : noDot l = l := by
  unfold noDot
  rw [List.filter_eq_self]
  intro b hb
  refine decide_eq_true (fun e => ?_)
  subst e
  exact absurd (hd 46 hb) (by decide)
theorem noDot_one {D P : List UInt8} (hD : ∀ b ∈ D, isDg b) (hP : ∀ b ∈ P, isDg b) : noDot (D ++ 46 :: P) = D ++ P := by
  have h1 := noDot_dg hD
  have h2 := noDot_dg hP
  unfold noDot at *
  rw [List.filter_append, List.filter_cons, h1, h2]
  simp
/-- the value that an angle's text must have -/
def angN (l : List UInt8) : Int := match l with | 45 :: t => -(valD (noDot t) : Int) | t => (valD (noDot t) : Int)
theorem ang_val {l : List UInt8} {a : Int} (h : AngIs l a) : a = angN l := by
  obtain ⟨sg, D, P, rfl, hD, hP, l1, _, _, rfl⟩ := ang_look h
  cases sg
  · simp only [Bool.false_eq_true, if_false]
    obtain ⟨b, r, rfl⟩ : ∃ b r, D = b :: r := by
      cases D with
      | nil => simp at l1
      | cons b r => exact ⟨b, r, rfl⟩
    have hb := hD b (by simp)
    have e := noDot_one hD hP
    unfold angN
    rw [List.cons_append] at e ⊢
    split
    · rename_i h
      injection h with h _
      subst h
      exact absurd hb (by decide)
    · show ((valD (b :: r ++ P) : Nat) : Int) = ((valD (noDot (b :: r ++ 46 :: P)) : Nat) : Int)
      rw [noDot_one hD hP]
  · simp only [if_true]
    unfold angN
    simp only
    rw [noDot_one hD hP]
theorem AngIs.uniq {l : List UInt8} {a b : Int} (h : AngIs l a) (h' : AngIs l b) : a = b := (ang_val h).trans (ang_val h').symm
open Classical in
noncomputable def angOk (l : List UInt8) : Bool := if ∃ n, AngIs l n then true else false
open Classical in
noncomputable def angV (l : List UInt8) : Int := if h : ∃ n, AngIs l n then h.choose else 0
theorem ang_yes {l : List UInt8} {n : Int} (h : AngIs l n) : angOk l = true ∧ angV l = n := by
  have hx : ∃ n, AngIs l n := ⟨n, h⟩
  refine ⟨if_pos hx, ?_⟩
  unfold angV
  rw [dif_pos hx]
  exact hx.choose_spec.uniq h
theorem ang_no {l : List UInt8} (h : ∀ n, ¬ AngIs l n) : angOk l = false ∧ angV l = 0 := by
  have hx : ¬ ∃ n, AngIs l n := fun ⟨n, hn⟩ => h n hn
  exact ⟨if_neg hx, by unfold angV; rw [dif_neg hx]⟩
theorem ang_of {l : List UInt8} (h : angOk l = true) : AngIs l (angV l) := by
  have hx : ∃ n, AngIs l n := by
    refine Classical.byContradiction (fun q => ?_)
    unfold angOk at h
    rw [if_neg q] at h
    cases h
  unfold angV
  rw [dif_pos hx]
  exact hx.choose_spec
/-- what a reader of angles hands back -/
def AngR (l : List UInt8) (e : Ending) : Prop := e = .returned (.tuple #[.int .i64 (angV l), .bool (angOk l)])
theorem angR_no {l : List UInt8} (h : ∀ n, ¬ AngIs l n) : AngR l (.returned (.tuple #[.int .i64 0, .bool false])) := by
  unfold AngR
  rw [(ang_no h).1, (ang_no h).2]
theorem angR_yes {l : List UInt8} {n : Int} (h : AngIs l n) : AngR l (.returned (.tuple #[.int .i64 n, .bool true])) := by
  unfold AngR
  rw [(ang_yes h).1, (ang_yes h).2]
/-- the sign and the rest -/
def AngBeg (l t : List UInt8) (sg : Bool) : Prop := (sg = true ∧ l = 45 :: t) ∨ (sg = false ∧ l = t ∧ t.head? ≠ some 45)
theorem ang_rest {l t : List UInt8} {sg : Bool} {a : Int} (hb : AngBeg l t sg) (h : AngIs l a) : ∃ D P : List UInt8, t = D ++ 46 :: P ∧ (∀ b ∈ D, isDg b) ∧ (∀ b ∈ P, isDg b) ∧ 1 ≤ D.length ∧ D.length ≤ 3 ∧ P.length = 3 ∧ a = (if sg then -(valD (noDot t) : Int) else (valD (noDot t) : Int)) := by
  obtain ⟨s2, D, P, e, hD, hP, l1, l2, l3, rfl⟩ := ang_look h
  have hh : ∀ x, (D ++ 46 :: P).head? = some x → isDg x := fun x hx => by
    cases D with
    | nil => simp at l1
    | cons b r => simp at hx; subst hx; exact hD b (by simp)
  have key : s2 = sg ∧ t = D ++ 46 :: P := by
    rcases hb with ⟨rfl, h1⟩ | ⟨rfl, h1, h2⟩
    · cases s2
      · exfalso
        rw [if_neg (by decide), h1] at e
        have := hh 45 (by rw [← e]; rfl)
        revert this; decide
      · rw [if_pos rfl, h1] at e
        injection e with _ e
        exact ⟨rfl, e⟩
    · cases s2
      · rw [if_neg (by decide), h1] at e
        exact ⟨rfl, e⟩
      · exfalso
        rw [if_pos rfl, h1] at e
        exact h2 (by rw [e]; rfl)
  obtain ⟨rfl, rfl⟩ := key
  refine ⟨D, P, rfl, hD, hP, l1, l2, l3, ?_⟩
  rw [noDot_one hD hP]
end Go.Ks
-- THE WALKS
namespace Go.Ks
open Go.RowKit Go.Lib
/-- the value of the digits before place i, the place m left out -/
def vA (t : ByteArray) (m : Nat) : Nat → Int
  | 0 => 0
  | i + 1 => if i = m then vA t m i else 10 * vA t m i + (bt t i - 48)
theorem vA_bd {t : ByteArray} {m : Nat} : ∀ i, (∀ j, j < i → j ≠ m → inB (bt t j) 48 57 = true) → 0 ≤ vA t m i ∧ vA t m i < (10 ^ i : Nat)
  | 0, _ => by simp [vA]
  | i + 1, h => by
    have ih := vA_bd i (fun j hj => h j (by omega))
    have e : (10 ^ (i + 1) : Nat) = 10 * 10 ^ i := by rw [Nat.pow_succ, Nat.mul_comm]
    unfold vA
    rw [e]
    split
    · omega
    · rename_i q
      have hb := inB_iff.1 (h i (by omega) q)
      omega
theorem vA_val {t : ByteArray} {m : Nat} (h46 : bt t m = 46) : ∀ i, i ≤ t.size → (∀ j, j < i → j ≠ m → inB (bt t j) 48 57 = true) → vA t m i = (valD (noDot (t.data.toList.take i)) : Int)
  | 0, _, _ => by simp [vA, valD, noDot]
  | i + 1, hi, h => by
    have ih := vA_val h46 i (by omega) (fun j hj => h j (by omega))
    obtain ⟨b, hb, hb2⟩ := list_bt (s := t) (i := i) (by omega)
    rw [List.take_add_one, hb]
    simp only [Option.toList_some]
    unfold noDot at ih ⊢
    rw [List.filter_append, vA]
    split
    · rename_i q
      subst q
      have : b = 46 := by
        apply UInt8.toNat_inj.1
        have : (46 : UInt8).toNat = 46 := rfl
        omega
      subst this
      simp [ih]
    · rename_i q
      have hd := inB_iff.1 (h i (by omega) q)
      have hne : b ≠ 46 := fun e => by
        subst e
        have : (46 : UInt8).toNat = 46 := rfl
        omega
      rw [List.filter_cons_of_pos (by simpa using hne), List.filter_nil, valD_snoc, ih, hb2]
      omega
theorem vA_8 {t : ByteArray} {m i : Nat} (h : ∀ j, j < i → j ≠ m → inB (bt t j) 48 57 = true) (hi : i ≤ 7) : 0 ≤ vA t m i ∧ vA t m i < 10000000 := by
  have h1 := vA_bd i h
  have h2 : 10 ^ i ≤ 10 ^ 7 := Nat.pow_le_pow_right (by decide) hi
  omega
theorem bt_eq {s : ByteArray} {l : List UInt8} (h : s.data.toList = l) {i : Nat} {b : UInt8} (hb : l[i]? = some b) : bt s i = (b.toNat : Int) := bt_list (by rw [h]; exact hb)
/-- what an angle's text looks like, byte for byte -/
theorem ang_bytes {p t : List UInt8} {sg : Bool} {td : ByteArray} {a : Int} (hb : AngBeg p t sg) (ht : td.data.toList = t) (h : AngIs p a) : 5 ≤ td.size ∧ td.size ≤ 7 ∧ bt td (td.size - 4) = 46 ∧ (∀ j, j < td.size → j ≠ td.size - 4 → inB (bt td j) 48 57 = true) ∧ a = (if sg then -(valD (noDot t) : Int) else (valD (noDot t) : Int)) := by
  obtain ⟨D, P, e, hD, hP, l1, l2, l3, ha⟩ := ang_rest hb h
  have hsz : td.size = D.length + 4 := by
    have : td.size = t.length := by rw [← ht]; rfl
    rw [this, e, List.length_append, List.length_cons, l3]
  have h4 : td.size - 4 = D.length := by omega
  refine ⟨by omega, by omega, ?_, fun j hj hne => ?_, ha⟩
  · rw [h4]
    have := bt_eq (s := td) (l := t) ht (i := D.length) (b := 46) (by rw [e, List.getElem?_append_right (Nat.le_refl _)]; simp)
    rw [this]; rfl
  · by_cases q : j < D.length
    · have hg : t[j]? = some D[j] := by rw [e, List.getElem?_append_left q, List.getElem?_eq_getElem q]
      rw [bt_eq ht hg]
      exact dg_in.1 (hD _ (List.getElem_mem q))
    · obtain ⟨k, hk⟩ : ∃ k, j = D.length + 1 + k := ⟨j - D.length - 1, by omega⟩
      have hk3 : k < P.length := by omega
      have hg : t[j]? = some P[k] := by
        rw [e, List.getElem?_append_right (by omega), show j - D.length = k + 1 by omega, List.getElem?_cons_succ, List.getElem?_eq_getElem hk3]
      rw [bt_eq ht hg]
      exact dg_in.1 (hP _ (List.getElem_mem hk3))
end Go.Ks
namespace Go.Proofs.YtikonccofaiceaaDoor
open Go.RowKit Go.Lib Go.Ks
set_option maxRecDepth 100000 in
set_option maxHeartbeats 4000000 in
theorem l02Read_neg (p t : List UInt8) (s td : ByteArray) (w : World) (hp : s.size ≤ 1048576) (hs1 : 1 ≤ s.size) (hL : s.data.toList = p) (hT : td.data.toList = t) (hb : AngBeg p t true) (h45 : (bt s 0 == 45) = true) (hext : s.extract 1 s.size = td) :
    Calls Tryd.prog 114 #[.string s] w fun e w' => AngR p e ∧ Below w.heap.size w w' := by
  have BY := Lib.hid (fun a => ang_bytes (a := a) hb hT)
  have HL := Lib.hid hL
  have HT := Lib.hid hT
  have hp' : (s.size : Int) ≤ 1048576 := by omega
  have hs1' : 0 < (s.size : Int) := by omega
  have hb0 := Go.Ks.bt_at (s := s) (i := 0) (by omega)
  have tsz : td.size ≤ 1048576 := by rw [← hext, ByteArray.size_extract]; omega
  clear hL hT hb
  by_cases q5 : td.size < 5
  · have E := Lib.hid (angR_no (l := p) (fun a h => by have := (BY.out a h).1; omega))
    have qd : decide ((td.size : Int) < 5) = true := decide_eq_true (by omega)
    clear q5
    go_enter Tryd.func114, Tryd.ntmps114
    go_wp2_with fail
    go_ret2
    exact ⟨E.out, Below.refl _ _⟩
  have qd5 : decide ((td.size : Int) < 5) = false := decide_eq_false (by omega)
  by_cases q7 : 7 < td.size
  · have E := Lib.hid (angR_no (l := p) (fun a h => by have := (BY.out a h).2.1; omega))
    have qd : decide (7 < (td.size : Int)) = true := decide_eq_true (by omega)
    clear q5 q7
    go_enter Tryd.func114, Tryd.ntmps114
    go_wp2_with fail
    go_ret2
    exact ⟨E.out, Below.refl _ _⟩
  have qd7 : decide (7 < (td.size : Int)) = false := decide_eq_false (by omega)
  obtain ⟨m, hm⟩ : ∃ m, td.size - 4 = m := ⟨_, rfl⟩
  have m1 : m < td.size := by omega
  have m2 : td.size ≤ 7 := by omega
  have hw : IntKind.i64.wrap ((td.size : Int) - 4) = (m : Int) := by rw [IntKind.wrap_i64]; omega
  have hw2 : (td.size : Int) - 4 = (m : Int) := by omega
  have hbm := Go.Ks.bt_at m1
  have HM := Lib.hid hm
  clear hm q5 q7
  by_cases q46 : Go.Ks.bt td m = 46
  case neg =>
    have E := Lib.hid (angR_no (l := p) (fun a h => by have := (BY.out a h).2.2.1; rw [HM.out] at this; exact q46 this))
    have qd : (Go.Ks.bt td m == 46) = false := beq_eq_false_iff_ne.2 q46
    clear q46
    go_enter Tryd.func114, Tryd.ntmps114
    go_wp2_with fail
    go_ret2
    exact ⟨E.out, Below.refl _ _⟩
  have H46 := Lib.hid q46
  have qd : (Go.Ks.bt td m == 46) = true := beq_iff_eq.2 q46
  clear q46
  go_enter Tryd.func114, Tryd.ntmps114
  go_wp2_with fail
  clear qd hbm hb0 qd5 qd7
  go_loop [6, 7] (fun v i => ∃ k : Nat, k ≤ td.size ∧ i = .int .i64 (k : Int) ∧ v = .int .i64 (vA td m k) ∧ ∀ j, j < k → j ≠ m → inB (Go.Ks.bt td j) 48 57 = true) (fun _ i => td.size - (RowKit.intOf i).toNat)
  case atStart => exact ⟨0, by omega, rfl, rfl, fun j hj => by omega⟩
  case round =>
    obtain ⟨k, hk, rfl, rfl, hall⟩ := hrel
    have HALL := Lib.hid hall
    clear hall
    by_cases hlt : k < td.size
    · have hlt' : (k : Int) < (td.size : Int) := by omega
      have tsz' : (td.size : Int) ≤ 7 := by omega
      by_cases qm : k = m
      · have qmd : ((k : Int) == (m : Int)) = true := beq_iff_eq.2 (by omega)
        have VV := Lib.hid (show vA td m (k + 1) = vA td m k by rw [vA, if_pos qm])
        have HK := Lib.hid (show ∀ j, j < k + 1 → j ≠ m → inB (Go.Ks.bt td j) 48 57 = true from fun j h1 h2 => HALL.out j (by omega) h2)
        clear qm
        go_wp2_with fail
        go_round
        case rel => exact ⟨k + 1, by omega, by go_num, by rw [VV.out], HK.out⟩
        case measure => simp [RowKit.intOf]; omega
      · have qmd : ((k : Int) == (m : Int)) = false := beq_eq_false_iff_ne.2 (by omega)
        have hbk := Go.Ks.bt_at hlt
        obtain ⟨bb0, bb1⟩ := Go.Ks.bt_bd td k
        obtain ⟨v0, v1⟩ := vA_8 HALL.out (by omega)
        cases q2 : inB (Go.Ks.bt td k) 48 57
        · have E := Lib.hid (angR_no (l := p) (fun a h => by have := (BY.out a h).2.2.2.1 k hlt (by rw [HM.out]; exact qm); rw [this] at q2; cases q2))
          have q3 : Go.Ks.bt td k < 48 ∨ (¬ Go.Ks.bt td k < 48 ∧ 57 < Go.Ks.bt td k) := by
            have : ¬ (48 ≤ Go.Ks.bt td k ∧ Go.Ks.bt td k ≤ 57) := fun h => by rw [inB_iff.2 h] at q2; cases q2
            omega
          clear q2 qm
          rcases q3 with q3 | ⟨q3, q4⟩
          all_goals
            go_wp2_with fail
            go_ret2
            exact ⟨E.out, Below.refl _ _⟩
        · obtain ⟨d0, d1⟩ := inB_iff.1 q2
          have HK := Lib.hid (show ∀ j, j < k + 1 → j ≠ m → inB (Go.Ks.bt td j) 48 57 = true from fun j h1 h2 => by
            by_cases e : j = k
            · subst e; exact q2
            · exact HALL.out j (by omega) h2)
          have VV := Lib.hid (show vA td m (k + 1) = 10 * vA td m k + (Go.Ks.bt td k - 48) by rw [vA, if_neg qm])
          generalize Go.Ks.bt td k = B at hbk bb0 bb1 d0 d1 VV q2
          generalize vA td m k = V at v0 v1 VV
          clear q2 qm
          have nb1 : ¬ B < 48 := by omega
          have nb2 : ¬ 57 < B := by omega
          have wr0 : IntKind.u8.wrap (B - 48) = B - 48 := by rw [IntKind.wrap_u8]; omega
          have wr1 : IntKind.i64.wrap (B - 48) = B - 48 := by rw [IntKind.wrap_i64]; omega
          have wr2 : IntKind.i64.wrap (10 * V) = 10 * V := by rw [IntKind.wrap_i64]; omega
          have wr3 : IntKind.i64.wrap (10 * V + (B - 48)) = 10 * V + (B - 48) := by rw [IntKind.wrap_i64]; omega
          go_wp2_with fail
          go_round
          case rel => exact ⟨k + 1, by omega, by go_num, by rw [VV.out], HK.out⟩
          case measure => simp [RowKit.intOf]; omega
    · obtain rfl : k = td.size := by omega
      obtain ⟨v0, v1⟩ := vA_8 HALL.out (by omega)
      have VV := vA_val H46.out td.size (Nat.le_refl _) HALL.out
      rw [List.take_of_length_le (by rw [list_len]; exact Nat.le_refl _), HT.out] at VV
      have UN := Lib.hid (show ∀ a, AngIs p a → a = -vA td m td.size from fun a h => by
        have := (BY.out a h).2.2.2.2
        rw [this, VV]
        rfl)
      clear VV
      generalize vA td m td.size = V at *
      have wr : IntKind.i64.wrap (-1 * V) = -V := by rw [IntKind.wrap_i64]; omega
      have mulv : -1 * V = -V := by omega
      go_wp2_with fail
      refine (l00In_eq _ _ _ _).mono ?_
      rintro e w1 ⟨rfl, rfl⟩
      cases q : inB (-V) (-359999) 359999
      · have E := Lib.hid (angR_no (l := p) (fun a h => by
          have e := UN.out a h
          have := h.1
          rw [e] at this
          rw [inB_iff.2 this] at q
          cases q))
        clear q
        go_wp2_with fail
        go_ret2
        exact ⟨E.out, Below.refl _ _⟩
      · have hr := inB_iff.1 q
        have TX := Lib.hid (l02Text_any (-V) hr w)
        clear q
        go_wp2_with fail
        refine TX.out.mono ?_
        rintro e w2 ⟨rfl, hb2⟩
        clear TX
        by_cases qs : angB (-V) = s
        · have E := Lib.hid (angR_yes (l := p) ⟨hr, by rw [qs]; exact HL.out⟩)
          rw [qs]
          clear qs
          go_wp2_with fail
          go_ret2
          exact ⟨E.out, hb2⟩
        · have E := Lib.hid (angR_no (l := p) (fun a h => by
            have e := UN.out a h
            have h2 := h.2
            rw [e] at h2
            exact qs (text_eq (h2.trans HL.out.symm))))
          have q1 : ((angB (-V)).toList == s.toList) = false := text_ne qs
          clear qs
          go_wp2_with fail
          go_ret2
          exact ⟨E.out, hb2⟩
set_option maxRecDepth 100000 in
set_option maxHeartbeats 4000000 in
theorem l02Read_pos (p t : List UInt8) (s : ByteArray) (w : World) (hp : s.size ≤ 1048576) (hs1 : 1 ≤ s.size) (hL : s.data.toList = p) (hT : s.data.toList = t) (hb : AngBeg p t false) (h45 : (bt s 0 == 45) = false) :
    Calls Tryd.prog 114 #[.string s] w fun e w' => AngR p e ∧ Below w.heap.size w w' := by
  have BY := Lib.hid (fun a => ang_bytes (a := a) hb hT)
  have HL := Lib.hid hL
  have HT := Lib.hid hT
  have hp' : (s.size : Int) ≤ 1048576 := by omega
  have hs1' : 0 < (s.size : Int) := by omega
  have hb0 := Go.Ks.bt_at (s := s) (i := 0) (by omega)
  have tsz : s.size ≤ 1048576 := by exact hp
  clear hL hT hb
  by_cases q5 : s.size < 5
  · have E := Lib.hid (angR_no (l := p) (fun a h => by have := (BY.out a h).1; omega))
    have qd : decide ((s.size : Int) < 5) = true := decide_eq_true (by omega)
    clear q5
    go_enter Tryd.func114, Tryd.ntmps114
    go_wp2_with fail
    go_ret2
    exact ⟨E.out, Below.refl _ _⟩
  have qd5 : decide ((s.size : Int) < 5) = false := decide_eq_false (by omega)
  by_cases q7 : 7 < s.size
  · have E := Lib.hid (angR_no (l := p) (fun a h => by have := (BY.out a h).2.1; omega))
    have qd : decide (7 < (s.size : Int)) = true := decide_eq_true (by omega)
    clear q5 q7
    go_enter Tryd.func114, Tryd.ntmps114
    go_wp2_with fail
    go_ret2
    exact ⟨E.out, Below.refl _ _⟩
  have qd7 : decide (7 < (s.size : Int)) = false := decide_eq_false (by omega)
  obtain ⟨m, hm⟩ : ∃ m, s.size - 4 = m := ⟨_, rfl⟩
  have m1 : m < s.size := by omega
  have m2 : s.size ≤ 7 := by omega
  have hw : IntKind.i64.wrap ((s.size : Int) - 4) = (m : Int) := by rw [IntKind.wrap_i64]; omega
  have hw2 : (s.size : Int) - 4 = (m : Int) := by omega
  have hbm := Go.Ks.bt_at m1
  have HM := Lib.hid hm
  clear hm q5 q7
  by_cases q46 : Go.Ks.bt s m = 46
  case neg =>
    have E := Lib.hid (angR_no (l := p) (fun a h => by have := (BY.out a h).2.2.1; rw [HM.out] at this; exact q46 this))
    have qd : (Go.Ks.bt s m == 46) = false := beq_eq_false_iff_ne.2 q46
    clear q46
    go_enter Tryd.func114, Tryd.ntmps114
    go_wp2_with fail
    go_ret2
    exact ⟨E.out, Below.refl _ _⟩
  have H46 := Lib.hid q46
  have qd : (Go.Ks.bt s m == 46) = true := beq_iff_eq.2 q46
  clear q46
  go_enter Tryd.func114, Tryd.ntmps114
  go_wp2_with fail
  clear qd hbm hb0 qd5 qd7
  go_loop [6, 7] (fun v i => ∃ k : Nat, k ≤ s.size ∧ i = .int .i64 (k : Int) ∧ v = .int .i64 (vA s m k) ∧ ∀ j, j < k → j ≠ m → inB (Go.Ks.bt s j) 48 57 = true) (fun _ i => s.size - (RowKit.intOf i).toNat)
  case atStart => exact ⟨0, by omega, rfl, rfl, fun j hj => by omega⟩
  case round =>
    obtain ⟨k, hk, rfl, rfl, hall⟩ := hrel
    have HALL := Lib.hid hall
    clear hall
    by_cases hlt : k < s.size
    · have hlt' : (k : Int) < (s.size : Int) := by omega
      have tsz' : (s.size : Int) ≤ 7 := by omega
      by_cases qm : k = m
      · have qmd : ((k : Int) == (m : Int)) = true := beq_iff_eq.2 (by omega)
        have VV := Lib.hid (show vA s m (k + 1) = vA s m k by rw [vA, if_pos qm])
        have HK := Lib.hid (show ∀ j, j < k + 1 → j ≠ m → inB (Go.Ks.bt s j) 48 57 = true from fun j h1 h2 => HALL.out j (by omega) h2)
        clear qm
        go_wp2_with fail
        go_round
        case rel => exact ⟨k + 1, by omega, by go_num, by rw [VV.out], HK.out⟩
        case measure => simp [RowKit.intOf]; omega
      · have qmd : ((k : Int) == (m : Int)) = false := beq_eq_false_iff_ne.2 (by omega)
        have hbk := Go.Ks.bt_at hlt
        obtain ⟨bb0, bb1⟩ := Go.Ks.bt_bd s k
        obtain ⟨v0, v1⟩ := vA_8 HALL.out (by omega)
        cases q2 : inB (Go.Ks.bt s k) 48 57
        · have E := Lib.hid (angR_no (l := p) (fun a h => by have := (BY.out a h).2.2.2.1 k hlt (by rw [HM.out]; exact qm); rw [this] at q2; cases q2))
          have q3 : Go.Ks.bt s k < 48 ∨ (¬ Go.Ks.bt s k < 48 ∧ 57 < Go.Ks.bt s k) := by
            have : ¬ (48 ≤ Go.Ks.bt s k ∧ Go.Ks.bt s k ≤ 57) := fun h => by rw [inB_iff.2 h] at q2; cases q2
            omega
          clear q2 qm
          rcases q3 with q3 | ⟨q3, q4⟩
          all_goals
            go_wp2_with fail
            go_ret2
            exact ⟨E.out, Below.refl _ _⟩
        · obtain ⟨d0, d1⟩ := inB_iff.1 q2
          have HK := Lib.hid (show ∀ j, j < k + 1 → j ≠ m → inB (Go.Ks.bt s j) 48 57 = true from fun j h1 h2 => by
            by_cases e : j = k
            · subst e; exact q2
            · exact HALL.out j (by omega) h2)
          have VV := Lib.hid (show vA s m (k + 1) = 10 * vA s m k + (Go.Ks.bt s k - 48) by rw [vA, if_neg qm])
          generalize Go.Ks.bt s k = B at hbk bb0 bb1 d0 d1 VV q2
          generalize vA s m k = V at v0 v1 VV
          clear q2 qm
          have nb1 : ¬ B < 48 := by omega
          have nb2 : ¬ 57 < B := by omega
          have wr0 : IntKind.u8.wrap (B - 48) = B - 48 := by rw [IntKind.wrap_u8]; omega
          have wr1 : IntKind.i64.wrap (B - 48) = B - 48 := by rw [IntKind.wrap_i64]; omega
          have wr2 : IntKind.i64.wrap (10 * V) = 10 * V := by rw [IntKind.wrap_i64]; omega
          have wr3 : IntKind.i64.wrap (10 * V + (B - 48)) = 10 * V + (B - 48) := by rw [IntKind.wrap_i64]; omega
          go_wp2_with fail
          go_round
          case rel => exact ⟨k + 1, by omega, by go_num, by rw [VV.out], HK.out⟩
          case measure => simp [RowKit.intOf]; omega
    · obtain rfl : k = s.size := by omega
      obtain ⟨v0, v1⟩ := vA_8 HALL.out (by omega)
      have VV := vA_val H46.out s.size (Nat.le_refl _) HALL.out
      rw [List.take_of_length_le (by rw [list_len]; exact Nat.le_refl _), HT.out] at VV
      have UN := Lib.hid (show ∀ a, AngIs p a → a = vA s m s.size from fun a h => by
        have := (BY.out a h).2.2.2.2
        rw [this, VV]
        rfl)
      clear VV
      generalize vA s m s.size = V at *
      have wr : IntKind.i64.wrap (1 * V) = V := by rw [IntKind.wrap_i64]; omega
      have mulv : 1 * V = V := by omega
      go_wp2_with fail
      refine (l00In_eq _ _ _ _).mono ?_
      rintro e w1 ⟨rfl, rfl⟩
      cases q : inB (V) (-359999) 359999
      · have E := Lib.hid (angR_no (l := p) (fun a h => by
          have e := UN.out a h
          have := h.1
          rw [e] at this
          rw [inB_iff.2 this] at q
          cases q))
        clear q
        go_wp2_with fail
        go_ret2
        exact ⟨E.out, Below.refl _ _⟩
      · have hr := inB_iff.1 q
        have TX := Lib.hid (l02Text_any (V) hr w)
        clear q
        go_wp2_with fail
        refine TX.out.mono ?_
        rintro e w2 ⟨rfl, hb2⟩
        clear TX
        by_cases qs : angB (V) = s
        · have E := Lib.hid (angR_yes (l := p) ⟨hr, by rw [qs]; exact HL.out⟩)
          rw [qs]
          clear qs
          go_wp2_with fail
          go_ret2
          exact ⟨E.out, hb2⟩
        · have E := Lib.hid (angR_no (l := p) (fun a h => by
            have e := UN.out a h
            have h2 := h.2
            rw [e] at h2
            exact qs (text_eq (h2.trans HL.out.symm))))
          have q1 : ((angB (V)).toList == s.toList) = false := text_ne qs
          clear qs
          go_wp2_with fail
          go_ret2
          exact ⟨E.out, hb2⟩
set_option maxRecDepth 100000 in
theorem l02Read_any (p : List UInt8) (hp : p.length ≤ 1048576) (w : World) :
    Calls Tryd.prog 114 #[.string ⟨p.toArray⟩] w fun e w' => AngR p e ∧ Below w.heap.size w w' := by
  obtain ⟨s, hS⟩ : ∃ s : ByteArray, ⟨p.toArray⟩ = s := ⟨_, rfl⟩
  have hL : s.data.toList = p := by rw [← hS]
  have hz : s.size = p.length := by rw [← hS]; exact bytes_size p
  rw [hS]
  clear hS
  cases hpp : p with
  | nil =>
    rw [hpp] at hz hL
    have E := Lib.hid (angR_no (l := []) (fun a h => by
      obtain ⟨sg, D, P, e, _⟩ := ang_look h
      cases sg <;> simp at e))
    have h0 : s.size = 0 := hz
    have h1 : ¬ 0 < (s.size : Int) := by omega
    have h2 : (s.size : Int) < 5 := by omega
    clear hz hL h0
    go_enter Tryd.func114, Tryd.ntmps114
    go_wp2_with fail
    go_ret2
    exact ⟨E.out, Below.refl _ _⟩
  | cons b r =>
    rw [hpp] at hz hL hp
    rw [List.length_cons] at hz
    have hb0 : Go.Ks.bt s 0 = (b.toNat : Int) := bt_eq hL rfl
    by_cases q : b = 45
    · subst q
      have h45 : (45 : UInt8).toNat = 45 := rfl
      refine l02Read_neg (45 :: r) r s (s.extract 1 s.size) w (by rw [List.length_cons] at hp; omega) (by omega) hL ?_ (.inl ⟨rfl, rfl⟩) (beq_iff_eq.2 (by omega)) rfl
      rw [ext_list, bytes_list, hL]
      exact List.take_of_length_le (by simp only [List.drop_succ_cons, List.drop_zero]; omega)
    · refine l02Read_pos (b :: r) (b :: r) s w (by rw [List.length_cons] at hp; omega) (by omega) hL hL (.inr ⟨rfl, rfl, fun e => q (by injection e)⟩) (beq_eq_false_iff_ne.2 (fun e => q (UInt8.toNat_inj.1 ?_)))
      have h45 : (45 : UInt8).toNat = 45 := rfl
      omega
end Go.Proofs.YtikonccofaiceaaDoor
