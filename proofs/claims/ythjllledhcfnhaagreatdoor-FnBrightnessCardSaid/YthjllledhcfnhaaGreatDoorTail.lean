/- A region that draws its order: its first operations hand slots on, the next only read or call functions that leave what was there, the last ones come in one order. One walk in the order of the text serves every order. General, no program. -/
import Derived.Test.YthjllledhcfnhaaGreatDoorBase
import Derived.StillTail
namespace Go.Ks
open Go.RowKit Go.Lib
section
variable {P : Program} {ops : Array Oper} {md : Region.Mode} {C : World → Prop}

/-- each of the operations from m to n - 1 is waited for -/
def sinkB (md : Region.Mode) (ops : Array Oper) (m n : Nat) : Bool :=
  (List.range n).all fun i => decide (i < m) || (List.range (n + 1)).any fun j => decide (i < j) && Region.waitsFor md ops j i
theorem tail_waits {m n : Nat} {listed : Array Bool} (hs : sinkB md ops m n = true) (hc : Region.chainB md ops n = true) (hn : n < ops.size) (inv : HeadInv md ops n listed) :
    ∀ (d i : Nat), n - i = d → m ≤ i → i < n → listed.getD i true = false → ∀ t, n ≤ t → t ∉ Region.ready md ops listed := by
  intro d
  induction d using Nat.strongRecOn with
  | _ d ih =>
    intro i hd hmi hi hun t ht hr
    obtain ⟨_, ot, hot, hall⟩ := mem_ready.1 hr
    have htlt : t < ops.size := (Array.getElem?_eq_some_iff.1 hot).1
    by_cases htn : t = n
    · subst htn
      have h1 := List.all_eq_true.1 hs i (List.mem_range.2 hi)
      rw [decide_eq_false (by omega : ¬ i < m), Bool.false_or] at h1
      obtain ⟨j, hj, hj2⟩ := List.any_eq_true.1 h1
      simp only [Bool.and_eq_true, decide_eq_true_eq] at hj2
      obtain ⟨oj, hoj, e, he, hb, hon⟩ := Region.waitsFor_spec hj2.2
      have hjle : j ≤ t := by have := List.mem_range.1 hj; omega
      by_cases hjt : j = t
      · subst hjt
        have : oj = ot := Option.some.inj (hoj.symm.trans hot)
        subst this
        have h2 := hall e he hb
        rw [hon, getD_both hun] at h2
        cases h2
      · cases hl : listed.getD j false with
        | true =>
          have h2 := inv.closed j oj hoj hl e he hb
          rw [hon, getD_both hun] at h2
          cases h2
        | false =>
          have hjs : j < listed.size := by rw [inv.size]; omega
          exact ih (t - j) (by omega) j rfl (by omega) (by omega) (getD_in hjs hl) t (Nat.le_refl _) hr
    · have h1 := List.all_eq_true.1 hc t (List.mem_range.2 htlt)
      simp only [Bool.or_eq_true, decide_eq_true_eq] at h1
      rcases h1 with h1 | h1
      · omega
      · obtain ⟨o', ho', e, he, hb, hon⟩ := Region.waitsFor_spec h1
        have : o' = ot := Option.some.inj (ho'.symm.trans hot)
        subst this
        have h2 := hall e he hb
        rw [hon, getD_both (inv.tail (t - 1) (by omega) (by omega))] at h2
        cases h2

def wpAnyL (P : Program) (md : Region.Mode) (ops : Array Oper) (C : World → Prop) (n : Nat) (L : Array Bool → Act → Prop) : Nat → Array Bool → Act → Prop
  | 0, listed, a => L listed a
  | f + 1, listed, a =>
    Region.ready md ops listed ≠ [] ∧ ∀ i ∈ Region.ready md ops listed, i < n ∧ qOp P ops C i (wpAnyL P md ops C n L f (listed.setIfInBounds i true)) a
theorem wpAny_of_head {n g : Nat} {L : Array Bool → Act → Prop} {Q' : Exit → Act → World → Prop} (hL : ∀ listed a w, C w → L listed a → wpAny P md ops Q' g listed a w) :
    ∀ (f : Nat) (listed : Array Bool) (a : Act) (w : World), C w → wpAnyL P md ops C n L f listed a → wpAny P md ops Q' (f + g) listed a w
  | 0, listed, a, w, hw, h => by rw [Nat.zero_add]; exact hL _ _ _ hw h
  | f + 1, listed, a, w, hw, h => by
    rw [show f + 1 + g = (f + g) + 1 by omega]
    exact ⟨fun h0 => absurd h0 h.1, fun i hi => wpOp_of_qOp hw (fun a' w' hw' h' => wpAny_of_head hL f _ a' w' hw' h') (h.2 i hi).2⟩

theorem wpAnyL_first {m n i : Nat} {oi : Oper} {v : Value} {L : Array Bool → Act → Prop} (hi : ops[i]? = some oi) (hsel : ∀ (j : Nat) (o : Oper) cs b, ops[j]? = some o → o.op ≠ .select cs b)
    (hs : sinkB md ops m n = true) (hc : Region.chainB md ops n = true) (hn : n < ops.size) (hmi : m ≤ i) (hin : i < n)
    (hdone : ∀ listed a, L listed a → ∀ j ∈ Region.ready md ops listed, n ≤ j) :
    ∀ (f : Nat) (listed : Array Bool) (a : Act), HeadInv md ops n listed →
      (∀ j oj, ops[j]? = some oj → j ≠ i → listed.getD j true = false → (∀ e ∈ oj.after, Region.binds md e = true → e.on ≠ i) → oi.apart ops oj = true) →
      i ∈ Region.ready md ops listed → YieldsIn P ops C oi v a →
      wpAnyL P md ops C n L f (listed.setIfInBounds i true) (a.put oi.dst v) → wpAnyL P md ops C n L (f + 1) listed a := by
  intro f
  induction f with
  | zero =>
    intro listed a inv _ hr hy H
    have hun := (mem_ready.1 hr).1
    refine ⟨fun h => (by rw [h] at hr; cases hr), fun j hj => ?_⟩
    have hjn : j < n := by
      rcases Nat.lt_or_ge j n with h | h
      · exact h
      · exact absurd hj (tail_waits hs hc hn inv _ i rfl hmi hin hun j h)
    refine ⟨hjn, ?_⟩
    by_cases hji : j = i
    · subst hji; exact hy.qOp hi H
    · have := hdone _ _ H j (ready_mono hj hji)
      omega
  | succ f ih =>
    intro listed a inv hfree hr hy H
    have hun := (mem_ready.1 hr).1
    refine ⟨fun h => (by rw [h] at hr; cases hr), fun j hj => ?_⟩
    have hjn : j < n := by
      rcases Nat.lt_or_ge j n with h | h
      · exact h
      · exact absurd hj (tail_waits hs hc hn inv _ i rfl hmi hin hun j h)
    refine ⟨hjn, ?_⟩
    by_cases hji : j = i
    · subst hji; exact hy.qOp hi H
    · have h1 := (H.2 j (ready_mono hj hji)).2
      obtain ⟨hjun, oj, hoj, hall⟩ := mem_ready.1 hj
      have hnot : ∀ e ∈ oj.after, Region.binds md e = true → e.on ≠ i := fun e he hb heq => by
        have h1 := hall e he hb
        rw [heq, getD_both hun] at h1
        cases h1
      have h2 := qOp_put hoj (hfree j oj hoj hji hjun hnot) (fun cs b => hsel i oi cs b hi) (fun cs b => hsel j oj cs b hoj) hy h1
      have hfree' : ∀ k ok, ops[k]? = some ok → k ≠ i → (listed.setIfInBounds j true).getD k true = false →
          (∀ e ∈ ok.after, Region.binds md e = true → e.on ≠ i) → oi.apart ops ok = true := fun k ok hk hki hun hno => by
        refine hfree k ok hk hki ?_ hno
        by_cases hjk : j = k
        · subst hjk; exact hjun
        · rw [getD_set_ne true hjk] at hun; exact hun
      refine qOp_mono (fun a' h3 => ih (listed.setIfInBounds j true) a' (inv.set hj hjn) hfree' (ready_mono hr (Ne.symm hji)) h3.1 ?_) h2
      rw [Array.setIfInBounds_comm _ _ hji]
      exact h3.2

theorem wpAnyL_lex {m n g : Nat} {Lq : Act → Prop} (hsel : Region.noSelect ops = true) (hs : sinkB md ops m n = true) (hc : Region.chainB md ops n = true) (hn : n < ops.size) :
    ∀ (l : List Oper) (k : Nat) (listed : Array Bool) (a : Act), m ≤ k → (∀ j, j < l.length → l[j]? = ops[k + j]?) → k + l.length = n → HeadInv md ops n listed →
    Region.lexHead md ops g l.length k listed = true → wpQuiet P ops C Lq l a →
    wpAnyL P md ops C n (fun listed' a' => Region.seqB md ops g n listed' = true ∧ Lq a') l.length listed a
  | [], k, listed, a, _, _, hk, _, hB, h => by
    have : k = n := by simpa using hk
    subst this
    exact ⟨by simpa [Region.lexHead] using hB, h⟩
  | o :: l, k, listed, a, hmk, hl, hk, inv, hB, h => by
    have h0 : ops[k]? = some o := by simpa using (hl 0 (by simp)).symm
    simp only [List.length_cons, Region.lexHead, Bool.and_eq_true] at hB
    obtain ⟨⟨hr, hf⟩, hB'⟩ := hB
    have hkn : k < n := by simp only [List.length_cons] at hk; omega
    have hr' : k ∈ Region.ready md ops listed := by simpa using hr
    have hst : qOp P ops C k (wpQuiet P ops C Lq l) a := by unfold qOp; simp only [h0]; exact h
    obtain ⟨v, hy, hK⟩ := yieldsIn_of_qOp h0 hst
    exact wpAnyL_first h0 (Region.noSelect_spec hsel) hs hc hn hmk hkn (fun listed' a' hL => seqB_ready hL.1) l.length listed a inv (Region.free_spec h0 hf) hr' hy
      (wpAnyL_lex hsel hs hc hn l (k + 1) _ _ (by omega) (fun j hj => by have := hl (j + 1) (by simp; omega); simpa [Nat.add_assoc, Nat.add_comm 1 j] using this) (by simp only [List.length_cons] at hk; omega) (inv.set hr' hkn) hB' hK)

/-- an operation that hands a slot on, without a guard -/
def plainMove (o : Oper) : Bool := match o.op, o.guard with | .move _, none => true | _, _ => false
/-- the first m operations hand slots on, and may be taken first -/
def movesB (md : Region.Mode) (ops : Array Oper) (rest : Array Bool → Bool) : Nat → Nat → Array Bool → Bool
  | 0, _, listed => rest listed
  | f + 1, k, listed => ((ops[k]?).map plainMove).getD false && (Region.ready md ops listed).contains k && Region.free md ops listed k && movesB md ops rest f (k + 1) (listed.setIfInBounds k true)
theorem wpAny_moves {n : Nat} {Q' : Exit → Act → World → Prop} {R : Array Bool → Bool} {Lq : Act → Prop} {g : Nat} {w : World} (hw : C w) (hsel : Region.noSelect ops = true)
    (hQ : ∀ d v c a w, Q' (.panic c) (Act.put a d v) w → Q' (.panic c) a w) (l2 : List Oper)
    (hR : ∀ listed a, HeadInv md ops n listed → R listed = true → wpQuiet P ops C Lq l2 a → wpAny P md ops Q' g listed a w) :
    ∀ (l : List Oper) (k : Nat) (listed : Array Bool) (a : Act), (∀ j, j < l.length → l[j]? = ops[k + j]?) → k + l.length ≤ n → HeadInv md ops n listed → movesB md ops R l.length k listed = true →
      wpQuiet P ops C Lq (l ++ l2) a → wpAny P md ops Q' (l.length + g) listed a w
  | [], _, listed, a, _, _, inv, hB, h => by
    rw [List.length_nil, Nat.zero_add]
    exact hR listed a inv hB h
  | o :: l, k, listed, a, hl, hk, inv, hB, h => by
    have h0 : ops[k]? = some o := by simpa using (hl 0 (by simp)).symm
    simp only [List.length_cons, movesB, Bool.and_eq_true, h0, Option.map_some, Option.getD_some] at hB
    obtain ⟨⟨⟨hpm, hr⟩, hf⟩, hB'⟩ := hB
    have hkn : k < n := by simp only [List.length_cons] at hk; omega
    have hr' : k ∈ Region.ready md ops listed := by simpa using hr
    have hst : qOp P ops C k (wpQuiet P ops C Lq (l ++ l2)) a := by unfold qOp; simp only [h0]; exact h
    obtain ⟨v, hy, hK⟩ := yieldsIn_of_qOp h0 hst
    obtain ⟨x, hx, hg⟩ : ∃ x, o.op = .move x ∧ o.guard = none := by
      unfold plainMove at hpm
      split at hpm
      · rename_i x h1 h2; exact ⟨x, h1, h2⟩
      · cases hpm
    have hwant : Region.wanted o (yielded ops a.tmps) = true := by simp [Region.wanted, hg]
    have hrun : ∀ w : World, (execOp a.eval o).run P w = .ok (.value (a.eval x)) w := fun w => by unfold execOp; rw [hx]; rfl
    have hv : v = a.eval x := by
      rcases hy with ⟨_, hy⟩ | ⟨hy, _⟩
      · have := hy w hw
        unfold Oper.quietAt at this
        rw [hrun w] at this
        exact this.2.symm
      · rw [hwant] at hy; cases hy
    have hyy : Yields P ops o v a := .inl ⟨hwant, fun w => by rw [hv]; exact hrun w⟩
    have ih := wpAny_moves hw hsel hQ l2 hR l (k + 1) (listed.setIfInBounds k true) (a.put o.dst v) (fun j hj => by have := hl (j + 1) (by simp; omega); simpa [Nat.add_assoc, Nat.add_comm 1 j] using this)
      (by simp only [List.length_cons] at hk; omega) (inv.set hr' hkn) hB' hK
    rw [show (o :: l).length + g = (l.length + g) + 1 by simp; omega]
    exact wpAny_take h0 hsel hf hr (fun c a w h => hQ _ _ c a w h) hyy ih

def tailB (md : Region.Mode) (ops : Array Oper) (m n : Nat) : Bool :=
  Region.noSelect ops && decide (n < ops.size) && decide (m ≤ n) && sinkB md ops m n && Region.chainB md ops n && movesB md ops (fun listed => Region.lexHead md ops (ops.size - n) (n - m) m listed) m 0 (Array.replicate ops.size false)

theorem wp_region_ext_tail {id : Nat} {Q : Exit → Act → World → Prop} {a : Act} {w : World} {l : List Oper} (m n : Nat) (hm : P.follows .mixedOrders = true) (hB : tailB .any l.toArray m n = true)
    (hQ : ∀ d v c a w, Q (.panic c) (Act.put a d v) w → Q (.panic c) a w)
    (h : wpQuiet P l.toArray (fun w' => ∃ e : ExtW w, w' = e.val) (fun a' => ∀ e : ExtW w, wpList P l.toArray Q (l.drop n) a' e.val) (l.take n) a) : (Code.region id l.toArray true).wp P Q a w := by
  simp only [tailB, Bool.and_eq_true, decide_eq_true_eq] at hB
  obtain ⟨⟨⟨⟨⟨hsel, hn⟩, hmn⟩, hs⟩, hc⟩, hlex⟩ := hB
  have hn' : n < l.length := by simpa using hn
  have hdl : (l.drop n).length = l.toArray.size - n := by simp
  have inv0 : HeadInv .any l.toArray n (Array.replicate l.toArray.size false) :=
    ⟨by simp, fun j oj _ hl => (by rw [getD_replicate_false] at hl; cases hl), fun t _ ht => getD_in (by simpa using ht) (getD_replicate_false _ _)⟩
  have hw : (fun w' => ∃ e : ExtW w, w' = e.val) { w with drawn := w.drawn + 1 } := ⟨⟨_, bdrew w⟩, rfl⟩
  have hsplit : l.take n = l.take m ++ (l.drop m).take (n - m) := by
    have := List.take_append_drop m (l.take n)
    rw [List.take_take, Nat.min_eq_left hmn, List.drop_take] at this
    exact this.symm
  rw [hsplit] at h
  have hml : (l.take m).length = m := by simp; omega
  have hnl : ((l.drop m).take (n - m)).length = n - m := by simp; omega
  refine wp_region_any hm ?_
  have H := wpAny_moves (md := .any) (n := n) (Q' := Q) (g := l.toArray.size - m) (R := fun listed => Region.lexHead .any l.toArray (l.toArray.size - n) (n - m) m listed) hw hsel hQ ((l.drop m).take (n - m))
    (fun listed a' inv hR hq => by
      have h1 := wpAnyL_lex (md := .any) (m := m) (g := l.toArray.size - n) hsel hs hc hn ((l.drop m).take (n - m)) m listed a' (Nat.le_refl _) (fun j hj => by
        have hj' : j < n - m := by rw [hnl] at hj; exact hj
        rw [List.getElem?_take, if_pos hj', List.getElem?_drop]; simp) (by rw [hnl]; omega) inv (by rw [hnl]; exact hR) hq
      have h2 := wpAny_of_head (Q' := Q) (g := l.toArray.size - n) (fun listed a'' w' hw' hL => by
        obtain ⟨e, rfl⟩ := hw'
        have := wpAny_of_seq (md := .any) (Q' := Q) (l.drop n) n listed a'' e.val (fun j => by simp [List.getElem?_drop]) (by rw [hdl]; exact hL.1) (hL.2 e)
        rwa [hdl] at this) _ _ _ _ hw h1
      rw [hnl, show n - m + (l.toArray.size - n) = l.toArray.size - m by omega] at h2
      exact h2) (l.take m) 0 (Array.replicate l.toArray.size false) a (fun j hj => by
        have hj' : j < m := by rw [hml] at hj; exact hj
        rw [List.getElem?_take, if_pos hj', Nat.zero_add]; simp) (by rw [hml]; omega) inv0 (by rw [hml]; exact hlex) h
  rw [hml, show m + (l.toArray.size - m) = l.toArray.size by omega] at H
  exact H
end
end Go.Ks
