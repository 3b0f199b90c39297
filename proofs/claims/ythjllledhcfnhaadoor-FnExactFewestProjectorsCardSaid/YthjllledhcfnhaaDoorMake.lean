/- A region that draws its order: operations that only read or call functions that leave what was there, one slice of one element that is made of a slot, then operations in one order ('x.f = append(x.f, T{g(a), g(b)})'). One walk in the order of the text serves every order. General, no program. -/
import Derived.Test.YthjllledhcfnhaaDoorAllocs
namespace Go.Ks.Make
open Go.RowKit Go.Lib Go.Ks
section
variable {P : Program} {ops : Array Oper} {md : Region.Mode}

/-- a slice of one element, made of a slot's value -/
def partT (len : Nat) (l : List (Nat × Operand)) : Option Tmp := match len, l with | 1, [(0, .tmp v)] => some v | _, _ => none
theorem partT_spec {len : Nat} {l : List (Nat × Operand)} {v : Tmp} (h : partT len l = some v) : len = 1 ∧ l = [(0, .tmp v)] := by
  unfold partT at h
  split at h
  · injection h with h; subst h; exact ⟨rfl, rfl⟩
  · cases h
def makeT (o : Oper) : Option (TypeId × Tmp) := match o.op, o.guard with | .buildSlice t len parts, none => (partT len parts.toList).map (fun v => (t, v)) | _, _ => none
theorem makeT_spec {o : Oper} {t : TypeId} {v : Tmp} (h : makeT o = some (t, v)) : o.op = .buildSlice t 1 #[(0, .tmp v)] ∧ o.guard = none := by
  unfold makeT at h
  split at h
  · rename_i t' len parts h1 h2
    cases hp : partT len parts.toList with
    | none => rw [hp] at h; cases h
    | some v' =>
      rw [hp] at h
      injection h with h
      injection h with e1 e2
      subst e1 e2
      obtain ⟨rfl, hl⟩ := partT_spec hp
      obtain ⟨pl⟩ := parts
      simp only at hl
      subst hl
      exact ⟨h1, h2⟩
  · cases h
def sl1 (B : Nat) : Value := .slice (some ⟨B, 0, none⟩) 1 1
variable {G : Value → Prop}
def mOp (P : Program) (ops : Array Oper) (C : World → Prop) (G : Value → Prop) (i : Nat) (K : Act → Prop) (a : Act) : Prop :=
  match ops[i]? with
  | none => K a
  | some o => match makeT o with
    | some x => G (a.eval (.tmp x.2)) ∧ ∀ B : Nat, K (a.put o.dst (sl1 B))
    | none => qOp P ops C i K a
theorem mOp_mono {C : World → Prop} {i : Nat} {a : Act} {K K' : Act → Prop} (h : ∀ a, K a → K' a) (hh : mOp P ops C G i K a) : mOp P ops C G i K' a := by
  unfold mOp at *
  split
  · rename_i ho; simp only [ho] at hh; exact h _ hh
  · rename_i o ho
    simp only [ho] at hh
    split
    · rename_i t ht; simp only [ht] at hh; exact ⟨hh.1, fun B => h _ (hh.2 B)⟩
    · rename_i ht; simp only [ht] at hh; exact qOp_mono h hh
theorem mOp_make {C : World → Prop} {i : Nat} {a : Act} {K : Act → Prop} {o : Oper} {x : TypeId × Tmp} (ho : ops[i]? = some o) (ht : makeT o = some x) : mOp P ops C G i K a ↔ G (a.eval (.tmp x.2)) ∧ ∀ B : Nat, K (a.put o.dst (sl1 B)) := by
  unfold mOp
  simp only [ho, ht]
theorem mOp_quiet {C : World → Prop} {i : Nat} {a : Act} {K : Act → Prop} {o : Oper} (ho : ops[i]? = some o) (ht : makeT o = none) : mOp P ops C G i K a ↔ qOp P ops C i K a := by
  unfold mOp
  simp only [ho, ht]
theorem make_eval {o oj : Oper} {x : TypeId × Tmp} (hx : makeT oj = some x) (hap : o.apart ops oj = true) (a : Act) (u : Value) : (a.put o.dst u).eval (.tmp x.2) = a.eval (.tmp x.2) := by
  obtain ⟨t, v⟩ := x
  obtain ⟨h1, _⟩ := makeT_spec hx
  obtain ⟨q1, _, _⟩ := Oper.apart_spec hap
  refine Act.eval_put fun d' hd' he => ?_
  injection he with he
  have := q1 d' hd'
  apply this
  subst he
  simp [Oper.looksAt, h1, Op.operands]

def wpAnyM (P : Program) (md : Region.Mode) (ops : Array Oper) (C : World → Prop) (G : Value → Prop) (n : Nat) (L : Array Bool → Act → Prop) : Nat → Array Bool → Act → Prop
  | 0, listed, a => L listed a
  | f + 1, listed, a =>
    Region.ready md ops listed ≠ [] ∧ ∀ i ∈ Region.ready md ops listed, i < n ∧ mOp P ops C G i (wpAnyM P md ops C G n L f (listed.setIfInBounds i true)) a

variable {C : World → Prop}
/-- an operation that only reads may be taken first -/
theorem wpAnyM_first {n i : Nat} {oi : Oper} {v : Value} {L : Array Bool → Act → Prop} (hi : ops[i]? = some oi) (hti : makeT oi = none) (hsel : ∀ (j : Nat) (o : Oper) cs b, ops[j]? = some o → o.op ≠ .select cs b)
    (hs : sinkB md ops 0 n = true) (hc : Region.chainB md ops n = true) (hn : n < ops.size) (hin : i < n)
    (hdone : ∀ listed a, L listed a → ∀ j ∈ Region.ready md ops listed, n ≤ j) :
    ∀ (f : Nat) (listed : Array Bool) (a : Act), HeadInv md ops n listed →
      (∀ j oj, ops[j]? = some oj → j ≠ i → listed.getD j true = false → (∀ e ∈ oj.after, Region.binds md e = true → e.on ≠ i) → oi.apart ops oj = true) →
      i ∈ Region.ready md ops listed → YieldsIn P ops C oi v a →
      wpAnyM P md ops C G n L f (listed.setIfInBounds i true) (a.put oi.dst v) → wpAnyM P md ops C G n L (f + 1) listed a := by
  intro f
  induction f with
  | zero =>
    intro listed a inv _ hr hy H
    have hun := (mem_ready.1 hr).1
    refine ⟨fun h => (by rw [h] at hr; cases hr), fun j hj => ?_⟩
    have hjn : j < n := by
      rcases Nat.lt_or_ge j n with h | h
      · exact h
      · exact absurd hj (tail_waits hs hc hn inv _ i rfl (Nat.zero_le _) hin hun j h)
    refine ⟨hjn, ?_⟩
    by_cases hji : j = i
    · subst hji; exact (mOp_quiet hi hti).2 (hy.qOp hi H)
    · have := hdone _ _ H j (ready_mono hj hji)
      omega
  | succ f ih =>
    intro listed a inv hfree hr hy H
    have hun := (mem_ready.1 hr).1
    refine ⟨fun h => (by rw [h] at hr; cases hr), fun j hj => ?_⟩
    have hjn : j < n := by
      rcases Nat.lt_or_ge j n with h | h
      · exact h
      · exact absurd hj (tail_waits hs hc hn inv _ i rfl (Nat.zero_le _) hin hun j h)
    refine ⟨hjn, ?_⟩
    by_cases hji : j = i
    · subst hji; exact (mOp_quiet hi hti).2 (hy.qOp hi H)
    · have h1 := (H.2 j (ready_mono hj hji)).2
      obtain ⟨hjun, oj, hoj, hall⟩ := mem_ready.1 hj
      have hnot : ∀ e ∈ oj.after, Region.binds md e = true → e.on ≠ i := fun e he hb heq => by
        have h1 := hall e he hb
        rw [heq, getD_both hun] at h1
        cases h1
      have hap := hfree j oj hoj hji hjun hnot
      have hfree' : ∀ k ok, ops[k]? = some ok → k ≠ i → (listed.setIfInBounds j true).getD k true = false →
          (∀ e ∈ ok.after, Region.binds md e = true → e.on ≠ i) → oi.apart ops ok = true := fun k ok hk hki hun hno => by
        refine hfree k ok hk hki ?_ hno
        by_cases hjk : j = k
        · subst hjk; exact hjun
        · rw [getD_set_ne true hjk] at hun; exact hun
      have h2 : mOp P ops C G j (fun a' => YieldsIn P ops C oi v a' ∧ wpAnyM P md ops C G n L f ((listed.setIfInBounds i true).setIfInBounds j true) (a'.put oi.dst v)) a := by
        cases htj : makeT oj with
        | none => exact (mOp_quiet hoj htj).2 (qOp_put hoj hap (fun cs b => hsel i oi cs b hi) (fun cs b => hsel j oj cs b hoj) hy ((mOp_quiet hoj htj).1 h1))
        | some t =>
          rw [mOp_make hoj htj] at h1 ⊢
          obtain ⟨q1, q2, q3⟩ := Oper.apart_spec hap
          rw [make_eval htj hap] at h1
          refine ⟨h1.1, fun B => ?_⟩
          refine ⟨hy.of_same (execOp_put oi (fun cs b => hsel i oi cs b hi) a oj.dst _ q3) (wanted_put oi a oj.dst _ q3), ?_⟩
          rw [← Act.put_comm a v _ q2]
          exact h1.2 B
      refine mOp_mono (fun a' h3 => ih (listed.setIfInBounds j true) a' (inv.set hj hjn) hfree' (ready_mono hr (Ne.symm hji)) h3.1 ?_) h2
      rw [Array.setIfInBounds_comm _ _ hji]
      exact h3.2


/-- when all else is listed, only the making is left -/
theorem wpAnyM_last {m : Nat} {om : Oper} {x : TypeId × Tmp} {L : Array Bool → Act → Prop} (hm : ops[m]? = some om) (hx : makeT om = some x)
    (hs : sinkB md ops 0 (m + 1) = true) (hc : Region.chainB md ops (m + 1) = true) (hn : m + 1 < ops.size) (listed : Array Bool) (a : Act) (inv : HeadInv md ops (m + 1) listed) (hlow : ∀ j, j < m → listed.getD j false = true)
    (hr : m ∈ Region.ready md ops listed) (hG : G (a.eval (.tmp x.2))) (H : ∀ B, L (listed.setIfInBounds m true) (a.put om.dst (sl1 B))) : wpAnyM P md ops C G (m + 1) L 1 listed a := by
  have hun := (mem_ready.1 hr).1
  refine ⟨fun h => (by rw [h] at hr; cases hr), fun j hj => ?_⟩
  have hjn : j < m + 1 := by
    rcases Nat.lt_or_ge j (m + 1) with h | h
    · exact h
    · exact absurd hj (tail_waits hs hc hn inv _ m rfl (Nat.zero_le _) (by omega) hun j h)
  refine ⟨hjn, ?_⟩
  have hjm : j = m := by
    rcases Nat.lt_or_ge j m with h | h
    · have := (mem_ready.1 hj).1
      rw [getD_up (hlow j h)] at this; cases this
    · omega
  subst hjm
  exact (mOp_make hm hx).2 ⟨hG, H⟩

def lastB (md : Region.Mode) (ops : Array Oper) (g m : Nat) (listed : Array Bool) : Bool := (Region.ready md ops listed).contains m && Region.seqB md ops g (m + 1) (listed.setIfInBounds m true)
theorem wpAnyM_quiets {m g : Nat} {om : Oper} {x : TypeId × Tmp} {Lq : Act → Prop} (hm : ops[m]? = some om) (hx : makeT om = some x) (hsel : Region.noSelect ops = true) (hs : sinkB md ops 0 (m + 1) = true) (hc : Region.chainB md ops (m + 1) = true) (hn : m + 1 < ops.size)
    (hq : ∀ j oj, j < m → ops[j]? = some oj → makeT oj = none) :
    ∀ (l : List Oper) (k : Nat) (listed : Array Bool) (a : Act), (∀ j, j < l.length → l[j]? = ops[k + j]?) → k + l.length = m → HeadInv md ops (m + 1) listed → (∀ j, j < k → listed.getD j false = true) →
    quietB md ops (lastB md ops g m) l.length k listed = true → wpQuiet P ops C (fun a' => G (a'.eval (.tmp x.2)) ∧ ∀ B, Lq (a'.put om.dst (sl1 B))) l a →
    wpAnyM P md ops C G (m + 1) (fun listed' a' => Region.seqB md ops g (m + 1) listed' = true ∧ listed'.getD m false = true ∧ Lq a') (l.length + 1) listed a
  | [], k, listed, a, _, hk, inv, hlow, hB, h => by
    have hkm : k = m := by simpa using hk
    subst hkm
    rw [List.length_nil, Nat.zero_add]
    simp only [quietB, lastB, List.length_nil, Bool.and_eq_true] at hB
    have hr' : k ∈ Region.ready md ops listed := by simpa using hB.1
    have hks : k < listed.size := by rw [inv.size]; omega
    exact wpAnyM_last hm hx hs hc hn listed a inv hlow hr' h.1 fun B => ⟨hB.2, by simp [hks], h.2 B⟩
  | o :: l, k, listed, a, hl, hk, inv, hlow, hB, h => by
    have h0 : ops[k]? = some o := by simpa using (hl 0 (by simp)).symm
    simp only [List.length_cons, quietB, Bool.and_eq_true] at hB
    obtain ⟨⟨hr, hf⟩, hB'⟩ := hB
    have hkm : k < m := by simp only [List.length_cons] at hk; omega
    have hr' : k ∈ Region.ready md ops listed := by simpa using hr
    have hst : qOp P ops C k (wpQuiet P ops C (fun a' => G (a'.eval (.tmp x.2)) ∧ ∀ B, Lq (a'.put om.dst (sl1 B))) l) a := by unfold qOp; simp only [h0]; exact h
    obtain ⟨v, hy, hK⟩ := yieldsIn_of_qOp h0 hst
    have hks : k < listed.size := by rw [inv.size]; exact (Array.getElem?_eq_some_iff.1 h0).1
    rw [show (o :: l).length + 1 = (l.length + 1) + 1 by simp]
    exact wpAnyM_first h0 (hq k o hkm h0) (Region.noSelect_spec hsel) hs hc hn (by omega) (fun listed' a' hL => seqB_ready hL.1) (l.length + 1) listed a inv (Region.free_spec h0 hf) hr' hy
      (wpAnyM_quiets hm hx hsel hs hc hn hq l (k + 1) _ _ (fun j hj => by have := hl (j + 1) (by simp; omega); simpa [Nat.add_assoc, Nat.add_comm 1 j] using this) (by simp only [List.length_cons] at hk; omega) (inv.set hr' (by omega)) (low_set hks hlow) hB' hK)

theorem qOp_size {C : World → Prop} {i N : Nat} {o : Oper} {a : Act} {K : Act → Prop} (ho : ops[i]? = some o) (hN : a.tmps.size = N) (h : qOp P ops C i K a) : qOp P ops C i (fun a' => a'.tmps.size = N ∧ K a') a := by
  unfold qOp at *
  simp only [ho] at h ⊢
  split
  · rename_i hw
    simp only [hw, if_true] at h
    obtain ⟨v, h1, h2⟩ := h
    exact ⟨v, h1, (put_size _ _ _).trans hN, h2⟩
  · rename_i hw
    simp only [hw] at h
    exact ⟨(put_size _ _ _).trans hN, h⟩
theorem wpQuiet_size {C : World → Prop} {N : Nat} {Q Q' : Act → Prop} : ∀ {l : List Oper} {a : Act}, a.tmps.size = N → (∀ a', a'.tmps.size = N → Q a' → Q' a') → wpQuiet P ops C Q l a → wpQuiet P ops C Q' l a
  | [], a, hN, h, hq => h a hN hq
  | o :: l, a, hN, h, hq => by
    simp only [wpQuiet] at hq ⊢
    split
    · rename_i hw
      rw [if_pos hw] at hq
      obtain ⟨v, h1, h2⟩ := hq
      exact ⟨v, h1, wpQuiet_size ((put_size _ _ _).trans hN) h h2⟩
    · rename_i hw
      rw [if_neg hw] at hq
      exact wpQuiet_size ((put_size _ _ _).trans hN) h hq

/-- operation i waits for j, through others too -/
def reachB (md : Region.Mode) (ops : Array Oper) : Nat → Nat → Nat → Bool
  | 0, _, _ => false
  | f + 1, i, j => match ops[i]? with | some o => o.after.any (fun e => Region.binds md e && (decide (e.on = j) || reachB md ops f e.on j)) | none => false
theorem reach_listed {n : Nat} {listed : Array Bool} (inv : HeadInv md ops n listed) : ∀ (f i j : Nat), reachB md ops f i j = true → listed.getD i false = true → listed.getD j false = true
  | 0, _, _, h, _ => by simp [reachB] at h
  | f + 1, i, j, h, hi => by
    unfold reachB at h
    cases ho : ops[i]? with
    | none => rw [ho] at h; cases h
    | some o =>
      rw [ho] at h
      obtain ⟨e, hem, he⟩ := Array.any_eq_true'.1 h
      simp only [Bool.and_eq_true, Bool.or_eq_true, decide_eq_true_eq] at he
      have hl := inv.closed i o ho hi e hem he.1
      rcases he.2 with rfl | h2
      · exact hl
      · exact reach_listed inv f e.on j h2 hl

def kindsB (md : Region.Mode) (ops : Array Oper) (m N : Nat) (t : TypeId) (d v : Tmp) : Bool :=
  (match ops[m]? with | some o => decide (makeT o = some (t, v)) && decide (o.dst = some d) | none => false) && decide (d < N) && decide (d ≠ v) &&
  (List.range m).all (fun i => match ops[i]? with
    | some o => decide (makeT o = none) && (plainRead o || reachB md ops 8 m i) && decide (o.dst ≠ some d) && (decide (o.dst ≠ some v) || reachB md ops 8 m i)
    | none => false)
structure Kinds (md : Region.Mode) (ops : Array Oper) (m N : Nat) (t : TypeId) (d v : Tmp) : Prop where
  made : ∃ om, ops[m]? = some om ∧ makeT om = some (t, v) ∧ om.dst = some d
  lt : d < N
  ne : d ≠ v
  head : ∀ i o, i < m → ops[i]? = some o → makeT o = none ∧ (plainRead o = true ∨ reachB md ops 8 m i = true) ∧ o.dst ≠ some d ∧ (o.dst ≠ some v ∨ reachB md ops 8 m i = true)
theorem kinds_of {m N : Nat} {t : TypeId} {d v : Tmp} (h : kindsB md ops m N t d v = true) : Kinds md ops m N t d v := by
  unfold kindsB at h
  simp only [Bool.and_eq_true, decide_eq_true_eq] at h
  obtain ⟨⟨⟨h1, h2⟩, h3⟩, h4⟩ := h
  refine ⟨?_, h2, h3, fun i o hi ho => ?_⟩
  · cases hm : ops[m]? with
    | none => rw [hm] at h1; cases h1
    | some om =>
      rw [hm] at h1
      simp only [Bool.and_eq_true, decide_eq_true_eq] at h1
      exact ⟨om, rfl, h1.1, h1.2⟩
  · have := List.all_eq_true.1 h4 i (List.mem_range.2 hi)
    rw [ho] at this
    simp only [Bool.and_eq_true, Bool.or_eq_true, decide_eq_true_eq] at this
    exact ⟨this.1.1.1, this.1.1.2, this.1.2, this.2⟩

/-- the making of a slice of one element -/
def MakeRun (P : Program) (t T : TypeId) (G : Value → Prop) (cs : Value → Array Value) : Prop := ∀ (w : World) (u : Value), G u → (Instr.buildSlice t 1 #[(0, u)]).run P w = .ok (sl1 w.heap.size) (w.alloc (.cells (cs u) T))

theorem wpAny_of_M {T t : TypeId} {d v : Tmp} {cs : Value → Array Value} {N m g : Nat} {W : World} {L : Array Bool → Act → Prop} {Q' : Exit → Act → World → Prop} (hK : Kinds md ops m N t d v)
    (hrun : MakeRun P t T G cs)
    (hL : ∀ listed a w', Below W.heap.size W w' → (listed.getD m false = true → ∃ B, a.eval (.tmp d) = sl1 B ∧ W.heap.size ≤ B ∧ Blk w' B T (cs (a.eval (.tmp v)))) → L listed a → wpAny P md ops Q' g listed a w') :
    ∀ (f : Nat) (listed : Array Bool) (a : Act) (w : World), Below W.heap.size W w → HeadInv md ops (m + 1) listed → a.tmps.size = N → (listed.getD m false = true → ∃ B, a.eval (.tmp d) = sl1 B ∧ W.heap.size ≤ B ∧ Blk w B T (cs (a.eval (.tmp v)))) →
      wpAnyM P md ops (fun w' => ∃ e : ExtW W, w' = e.val) G (m + 1) L f listed a → wpAny P md ops Q' (f + g) listed a w
  | 0, listed, a, w, hw, _, _, hi, h => by rw [Nat.zero_add]; exact hL listed a w hw hi h
  | f + 1, listed, a, w, hw, inv, hN, hinv, h => by
    rw [show f + 1 + g = (f + g) + 1 by omega]
    refine ⟨fun h0 => absurd h0 h.1, fun i hi => ?_⟩
    obtain ⟨hiun, o, ho, _⟩ := mem_ready.1 hi
    have hun := getD_both hiun
    obtain ⟨hin, h1⟩ := h.2 i hi
    have inv' := inv.set hi hin
    by_cases him : i < m
    · obtain ⟨k1, k2, k3, k4⟩ := hK.head i o him ho
      have hq := (mOp_quiet ho k1).1 h1
      have hset : (listed.setIfInBounds i true).getD m false = listed.getD m false := getD_set_false (by omega)
      cases hm : listed.getD m false with
      | true =>
        have hnr : ¬ reachB md ops 8 m i = true := fun hr => by
          have := reach_listed inv 8 m i hr hm
          rw [this] at hun; cases hun
        have hp : plainRead o = true := k2.resolve_right hnr
        have hv : o.dst ≠ some v := k4.resolve_right hnr
        refine wpOp_of_plain (C := fun w' => ∃ e : ExtW W, w' = e.val) ho hp ⟨⟨w, hw⟩, rfl⟩ (fun u hu => ?_) hq
        refine wpAny_of_M hK hrun hL f _ _ w hw inv' ((put_size _ _ _).trans hN) (fun _ => ?_) hu
        rw [eval_put_ne k3, eval_put_ne hv]
        exact hinv hm
      | false =>
        refine wpOp_of_qOp (C := fun w' => (∃ e : ExtW W, w' = e.val)) (K := fun a' => a'.tmps.size = N ∧ wpAnyM P md ops (fun w' => ∃ e : ExtW W, w' = e.val) G (m + 1) L f (listed.setIfInBounds i true) a') ⟨⟨w, hw⟩, rfl⟩ (fun a' w' hw' hu => ?_) (qOp_size ho hN hq)
        obtain ⟨e, rfl⟩ := hw'
        exact wpAny_of_M hK hrun hL f _ a' e.val e.below inv' hu.1 (fun hh => by rw [hset, hm] at hh; cases hh) hu.2
    · have him' : i = m := by omega
      subst him'
      obtain ⟨om, hom, hmk, hd⟩ := hK.made
      have : om = o := Option.some.inj (hom.symm.trans ho)
      subst this
      obtain ⟨hG, h2⟩ := (mOp_make ho hmk).1 h1
      obtain ⟨hop, hg⟩ := makeT_spec hmk
      have hr : (execOp a.eval om).run P w = .ok (.value (sl1 w.heap.size)) (w.alloc (.cells (cs (a.eval (.tmp v))) T)) := by
        unfold execOp
        rw [hop]
        have hp : (#[((0 : Nat), Operand.tmp v)].map fun (x : Nat × Operand) => (x.1, a.eval x.2)) = #[(0, a.eval (.tmp v))] := by simp
        show ((do pure (Next.value (← Instr.buildSlice t 1 (#[((0 : Nat), Operand.tmp v)].map fun (x : Nat × Operand) => (x.1, a.eval x.2))))) : Sem Next).run P w = _
        rw [hp, Sem.run_bind, hrun w _ hG]
        rfl
      unfold wpOp
      simp only [ho]
      rw [if_pos (by simp [Region.wanted, hg])]
      refine .inl ?_
      unfold Oper.wp
      rw [hr]
      refine wpAny_of_M hK hrun hL f _ _ _ (Below.alloc hw hw.size _) inv' ((put_size _ _ _).trans hN) (fun _ => ⟨w.heap.size, ?_, hw.size, ?_⟩) (h2 w.heap.size)
      · rw [hd]; exact eval_put (by rw [hN]; exact hK.lt)
      · rw [eval_put_ne (by rw [hd]; exact fun e => hK.ne (Option.some.inj e))]
        exact Blk.new w T _

def makesB (md : Region.Mode) (ops : Array Oper) (m N : Nat) (t : TypeId) (d v : Tmp) : Bool :=
  Region.noSelect ops && decide (m + 1 < ops.size) && sinkB md ops 0 (m + 1) && Region.chainB md ops (m + 1) && quietB md ops (lastB md ops (ops.size - (m + 1)) m) m 0 (Array.replicate ops.size false) && kindsB md ops m N t d v

theorem wp_region_make {id : Nat} {Q : Exit → Act → World → Prop} {a : Act} {w : World} {l : List Oper} (m N : Nat) (t T : TypeId) (d v : Tmp) (G : Value → Prop) (cs : Value → Array Value) (hm : P.follows .mixedOrders = true) (hB : makesB .any l.toArray m N t d v = true) (hN : a.tmps.size = N)
    (hrun : MakeRun P t T G cs)
    (h : wpQuiet P l.toArray (fun w' => ∃ e : ExtW w, w' = e.val) (fun a' => G (a'.eval (.tmp v)) ∧ ∀ B : Nat, ∀ w' : World, Below w.heap.size w w' → w.heap.size ≤ B → Blk w' B T (cs (a'.eval (.tmp v))) → wpList P l.toArray Q (l.drop (m + 1)) (a'.put (some d) (sl1 B)) w') (l.take m) a) : (Code.region id l.toArray true).wp P Q a w := by
  simp only [makesB, Bool.and_eq_true, decide_eq_true_eq] at hB
  obtain ⟨⟨⟨⟨⟨hsel, hn⟩, hs⟩, hc⟩, hq⟩, hk⟩ := hB
  have hK := kinds_of hk
  obtain ⟨om, hom, hmk, hd⟩ := hK.made
  have hn' : m + 1 < l.length := by simpa using hn
  have hdl : (l.drop (m + 1)).length = l.toArray.size - (m + 1) := by simp
  have hml : (l.take m).length = m := by simp; omega
  have inv0 : HeadInv .any l.toArray (m + 1) (Array.replicate l.toArray.size false) :=
    ⟨by simp, fun j oj _ hl => (by rw [getD_replicate_false] at hl; cases hl), fun t _ ht => getD_in (by simpa using ht) (getD_replicate_false _ _)⟩
  refine wp_region_any hm ?_
  have h' : wpQuiet P l.toArray (fun w' => ∃ e : ExtW w, w' = e.val) (fun a' => G (a'.eval (.tmp v)) ∧ ∀ B, (fun a'' => ∀ B w', Below w.heap.size w w' → a''.eval (.tmp d) = sl1 B → w.heap.size ≤ B → Blk w' B T (cs (a''.eval (.tmp v))) → wpList P l.toArray Q (l.drop (m + 1)) a'' w') (a'.put om.dst (sl1 B))) (l.take m) a := by
    refine wpQuiet_size (N := N) hN (fun a' hN' ha' => ⟨ha'.1, fun B B' w' hb he hB' hblk => ?_⟩) h
    rw [hd] at he hblk ⊢
    rw [eval_put (by rw [hN']; exact hK.lt)] at he
    rw [eval_put_ne (fun e => hK.ne (Option.some.inj e))] at hblk
    have : B = B' := by
      unfold sl1 at he
      injection he with he
      injection he with he
      injection he with he
    subst this
    exact ha'.2 B w' hb hB' hblk
  have H := wpAnyM_quiets (P := P) (md := .any) (G := G) (C := fun w' => ∃ e : ExtW w, w' = e.val) (m := m) (g := l.toArray.size - (m + 1)) (Lq := fun a'' => ∀ B w', Below w.heap.size w w' → a''.eval (.tmp d) = sl1 B → w.heap.size ≤ B → Blk w' B T (cs (a''.eval (.tmp v))) → wpList P l.toArray Q (l.drop (m + 1)) a'' w') hom hmk hsel hs hc hn (fun j oj hj hoj => (hK.head j oj hj hoj).1) (l.take m) 0 (Array.replicate l.toArray.size false) a
    (fun j hj => by
      have hj' : j < m := by rw [hml] at hj; exact hj
      rw [List.getElem?_take, if_pos hj', Nat.zero_add]; simp) (by rw [hml]; omega) inv0 (fun j hj => absurd hj (Nat.not_lt_zero _)) (by rw [hml]; exact hq) h'
  have H2 := wpAny_of_M (P := P) (md := .any) (W := w) (T := T) (t := t) (d := d) (v := v) (cs := cs) (N := N) (m := m) (g := l.toArray.size - (m + 1)) (Q' := Q) hK hrun
    (fun listed a'' w' hw' hi hL => by
      obtain ⟨B, h1, h2, h3⟩ := hi hL.2.1
      have := wpAny_of_seq (md := .any) (Q' := Q) (l.drop (m + 1)) (m + 1) listed a'' w' (fun j => by simp [List.getElem?_drop]) (by rw [hdl]; exact hL.1) (hL.2.2 B w' hw' h1 h2 h3)
      rwa [hdl] at this) _ _ _ { w with drawn := w.drawn + 1 } (bdrew w) inv0 hN (fun hl => by rw [getD_replicate_false] at hl; cases hl) H
  rw [hml, show m + 1 + (l.toArray.size - (m + 1)) = l.toArray.size by omega] at H2
  exact H2
end
end Go.Ks.Make
