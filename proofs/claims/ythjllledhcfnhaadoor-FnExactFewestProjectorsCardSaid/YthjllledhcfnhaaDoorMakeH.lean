/- A region that draws its order: as in XMake, but its first operations only hand slots on, and what is last may be the first that waits for them ('x.f = append(x.f, g(a))'). General, no program. -/
import Derived.Test.YthjllledhcfnhaaDoorMake
namespace Go.Ks.Make
open Go.RowKit Go.Lib Go.Ks
section
variable {P : Program} {ops : Array Oper} {md : Region.Mode} {G : Value → Prop} {C : World → Prop}
theorem wpAnyH_first {b n i : Nat} {oi : Oper} {v : Value} {L : Array Bool → Act → Prop} (hi : ops[i]? = some oi) (hti : makeT oi = none) (hsel : ∀ (j : Nat) (o : Oper) cs b, ops[j]? = some o → o.op ≠ .select cs b)
    (hs : sinkB md ops b n = true) (hc : Region.chainB md ops n = true) (hn : n < ops.size) (hbi : b ≤ i) (hin : i < n)
    (hdone : ∀ listed a, L listed a → ∀ j ∈ Region.ready md ops listed, n ≤ j) :
    ∀ (f : Nat) (listed : Array Bool) (a : Act), HeadInv md ops n listed →
      (∀ j oj, ops[j]? = some oj → j ≠ i → listed.getD j true = false → (∀ e ∈ oj.after, Region.binds md e = true → e.on ≠ i) → oi.apart ops oj = true) →
      i ∈ Region.ready md ops listed → YieldsIn P ops C oi v a →
      wpAnyM P md ops C G n L f (listed.setIfInBounds i true) (a.put oi.dst v) → wpAnyM P md ops C G n L (f + 1) listed a := by
  intro f
  induction f with
  | zero =>
    intro listed a inv _ hr hy H
    have hun := (mem_ready.1 hr).1
    refine ⟨fun h => (by rw [h] at hr; cases hr), fun j hj => ?_⟩
    have hjn : j < n := by
      rcases Nat.lt_or_ge j n with h | h
      · exact h
      · exact absurd hj (tail_waits hs hc hn inv _ i rfl hbi hin hun j h)
    refine ⟨hjn, ?_⟩
    by_cases hji : j = i
    · subst hji; exact (mOp_quiet hi hti).2 (hy.qOp hi H)
    · have := hdone _ _ H j (ready_mono hj hji)
      omega
  | succ f ih =>
    intro listed a inv hfree hr hy H
    have hun := (mem_ready.1 hr).1
    refine ⟨fun h => (by rw [h] at hr; cases hr), fun j hj => ?_⟩
    have hjn : j < n := by
      rcases Nat.lt_or_ge j n with h | h
      · exact h
      · exact absurd hj (tail_waits hs hc hn inv _ i rfl hbi hin hun j h)
    refine ⟨hjn, ?_⟩
    by_cases hji : j = i
    · subst hji; exact (mOp_quiet hi hti).2 (hy.qOp hi H)
    · have h1 := (H.2 j (ready_mono hj hji)).2
      obtain ⟨hjun, oj, hoj, hall⟩ := mem_ready.1 hj
      have hnot : ∀ e ∈ oj.after, Region.binds md e = true → e.on ≠ i := fun e he hb heq => by
        have h1 := hall e he hb
        rw [heq, getD_both hun] at h1
        cases h1
      have hap := hfree j oj hoj hji hjun hnot
      have hfree' : ∀ k ok, ops[k]? = some ok → k ≠ i → (listed.setIfInBounds j true).getD k true = false →
          (∀ e ∈ ok.after, Region.binds md e = true → e.on ≠ i) → oi.apart ops ok = true := fun k ok hk hki hun hno => by
        refine hfree k ok hk hki ?_ hno
        by_cases hjk : j = k
        · subst hjk; exact hjun
        · rw [getD_set_ne true hjk] at hun; exact hun
      have h2 : mOp P ops C G j (fun a' => YieldsIn P ops C oi v a' ∧ wpAnyM P md ops C G n L f ((listed.setIfInBounds i true).setIfInBounds j true) (a'.put oi.dst v)) a := by
        cases htj : makeT oj with
        | none => exact (mOp_quiet hoj htj).2 (qOp_put hoj hap (fun cs b => hsel i oi cs b hi) (fun cs b => hsel j oj cs b hoj) hy ((mOp_quiet hoj htj).1 h1))
        | some t =>
          rw [mOp_make hoj htj] at h1 ⊢
          obtain ⟨q1, q2, q3⟩ := Oper.apart_spec hap
          rw [make_eval htj hap] at h1
          refine ⟨h1.1, fun B => ?_⟩
          refine ⟨hy.of_same (execOp_put oi (fun cs b => hsel i oi cs b hi) a oj.dst _ q3) (wanted_put oi a oj.dst _ q3), ?_⟩
          rw [← Act.put_comm a v _ q2]
          exact h1.2 B
      refine mOp_mono (fun a' h3 => ih (listed.setIfInBounds j true) a' (inv.set hj hjn) hfree' (ready_mono hr (Ne.symm hji)) h3.1 ?_) h2
      rw [Array.setIfInBounds_comm _ _ hji]
      exact h3.2
theorem wpAnyH_last {b m : Nat} {om : Oper} {x : TypeId × Tmp} {L : Array Bool → Act → Prop} (hm : ops[m]? = some om) (hx : makeT om = some x) (hbm : b ≤ m)
    (hs : sinkB md ops b (m + 1) = true) (hc : Region.chainB md ops (m + 1) = true) (hn : m + 1 < ops.size) (listed : Array Bool) (a : Act) (inv : HeadInv md ops (m + 1) listed) (hlow : ∀ j, j < m → listed.getD j false = true)
    (hr : m ∈ Region.ready md ops listed) (hG : G (a.eval (.tmp x.2))) (H : ∀ B, L (listed.setIfInBounds m true) (a.put om.dst (sl1 B))) : wpAnyM P md ops C G (m + 1) L 1 listed a := by
  have hun := (mem_ready.1 hr).1
  refine ⟨fun h => (by rw [h] at hr; cases hr), fun j hj => ?_⟩
  have hjn : j < m + 1 := by
    rcases Nat.lt_or_ge j (m + 1) with h | h
    · exact h
    · exact absurd hj (tail_waits hs hc hn inv _ m rfl hbm (by omega) hun j h)
  refine ⟨hjn, ?_⟩
  have hjm : j = m := by
    rcases Nat.lt_or_ge j m with h | h
    · have := (mem_ready.1 hj).1
      rw [getD_up (hlow j h)] at this; cases this
    · omega
  subst hjm
  exact (mOp_make hm hx).2 ⟨hG, H⟩
theorem wpAnyH_quiets {b m g : Nat} {om : Oper} {x : TypeId × Tmp} {Lq : Act → Prop} (hm : ops[m]? = some om) (hx : makeT om = some x) (hsel : Region.noSelect ops = true) (hs : sinkB md ops b (m + 1) = true) (hc : Region.chainB md ops (m + 1) = true) (hn : m + 1 < ops.size)
    (hq : ∀ j oj, j < m → ops[j]? = some oj → makeT oj = none) :
    ∀ (l : List Oper) (k : Nat) (listed : Array Bool) (a : Act), b ≤ k → (∀ j, j < l.length → l[j]? = ops[k + j]?) → k + l.length = m → HeadInv md ops (m + 1) listed → (∀ j, j < k → listed.getD j false = true) →
    quietB md ops (lastB md ops g m) l.length k listed = true → wpQuiet P ops C (fun a' => G (a'.eval (.tmp x.2)) ∧ ∀ B, Lq (a'.put om.dst (sl1 B))) l a →
    wpAnyM P md ops C G (m + 1) (fun listed' a' => Region.seqB md ops g (m + 1) listed' = true ∧ listed'.getD m false = true ∧ Lq a') (l.length + 1) listed a
  | [], k, listed, a, hbk, _, hk, inv, hlow, hB, h => by
    have hkm : k = m := by simpa using hk
    subst hkm
    rw [List.length_nil, Nat.zero_add]
    simp only [quietB, lastB, List.length_nil, Bool.and_eq_true] at hB
    have hr' : k ∈ Region.ready md ops listed := by simpa using hB.1
    have hks : k < listed.size := by rw [inv.size]; omega
    exact wpAnyH_last hm hx hbk hs hc hn listed a inv hlow hr' h.1 fun B => ⟨hB.2, by simp [hks], h.2 B⟩
  | o :: l, k, listed, a, hbk, hl, hk, inv, hlow, hB, h => by
    have h0 : ops[k]? = some o := by simpa using (hl 0 (by simp)).symm
    simp only [List.length_cons, quietB, Bool.and_eq_true] at hB
    obtain ⟨⟨hr, hf⟩, hB'⟩ := hB
    have hkm : k < m := by simp only [List.length_cons] at hk; omega
    have hr' : k ∈ Region.ready md ops listed := by simpa using hr
    have hst : qOp P ops C k (wpQuiet P ops C (fun a' => G (a'.eval (.tmp x.2)) ∧ ∀ B, Lq (a'.put om.dst (sl1 B))) l) a := by unfold qOp; simp only [h0]; exact h
    obtain ⟨v, hy, hK⟩ := yieldsIn_of_qOp h0 hst
    have hks : k < listed.size := by rw [inv.size]; exact (Array.getElem?_eq_some_iff.1 h0).1
    rw [show (o :: l).length + 1 = (l.length + 1) + 1 by simp]
    exact wpAnyH_first h0 (hq k o hkm h0) (Region.noSelect_spec hsel) hs hc hn hbk (by omega) (fun listed' a' hL => seqB_ready hL.1) (l.length + 1) listed a inv (Region.free_spec h0 hf) hr' hy
      (wpAnyH_quiets hm hx hsel hs hc hn hq l (k + 1) _ _ (by omega) (fun j hj => by have := hl (j + 1) (by simp; omega); simpa [Nat.add_assoc, Nat.add_comm 1 j] using this) (by simp only [List.length_cons] at hk; omega) (inv.set hr' (by omega)) (low_set hks hlow) hB' hK)
theorem size_back {N : Nat} {Q : Act → Prop} : ∀ {l : List Oper} {a : Act}, wpQuiet P ops C (fun a' => a'.tmps.size = N ∧ Q a') l a → a.tmps.size = N
  | [], a, h => h.1
  | o :: l, a, h => by
    simp only [wpQuiet] at h
    split at h
    · obtain ⟨v, _, h2⟩ := h
      exact (put_size _ _ _).symm.trans (size_back h2)
    · exact (put_size _ _ _).symm.trans (size_back h)
theorem drop_size {N : Nat} {Q : Act → Prop} : ∀ {l : List Oper} {a : Act}, wpQuiet P ops C (fun a' => a'.tmps.size = N ∧ Q a') l a → wpQuiet P ops C Q l a
  | [], a, h => h.2
  | o :: l, a, h => by
    simp only [wpQuiet] at h ⊢
    split
    · rename_i hw
      rw [if_pos hw] at h
      obtain ⟨v, h1, h2⟩ := h
      exact ⟨v, h1, drop_size h2⟩
    · rename_i hw
      rw [if_neg hw] at h
      exact drop_size h
def plainN (o : Oper) : Bool := match o.op with | .move _ | .assign _ | .load .. | .binOp .. | .unOp .. | .fieldAddr .. | .indexAddr .. | .extract .. | .nilCheck .. => true | _ => false
theorem andThen_ne {α β : Type} {r : Result α} {k : α → World → Result β} {y : Result β} (h : ∀ a w', k a w' ≠ y) (hy : ∀ e w', y ≠ .halt e w') : r.andThen k ≠ y := by
  cases r with
  | ok a w' => exact h a w'
  | halt e w' => exact fun q => hy e w' q.symm
theorem noEnterN {o : Oper} (h : plainN o = true) (ρ : Operand → Value) (w w' : World) (f : FuncId) (args : Array Value) : (execOp ρ o).run P w ≠ .ok (.enter f args) w' := by
  have key : ∀ s : Sem Value, ((do pure (Next.value (← s))) : Sem Next).run P w ≠ .ok (.enter f args) w' := fun s he => by
    rw [Sem.run_bind] at he
    cases hs : s.run P w with
    | ok u x => rw [hs] at he; simp [Result.andThen] at he
    | halt u x => rw [hs] at he; simp [Result.andThen] at he
  unfold plainN at h
  unfold execOp
  generalize o.op = op at *
  cases op
  case nilCheck x =>
    intro he
    simp only at he
    split at he
    · simp [go_sem, runtimePanic] at he
    · simp [go_sem, runtimePanic] at he
    · simp [go_sem, runtimePanic] at he
    · split at he
      · simp [go_sem, runtimePanic] at he
      · revert he
        rw [Sem.run_bind]
        refine andThen_ne (fun p x => ?_) (fun e w' q => by cases q)
        rw [Sem.run_bind]
        refine andThen_ne (fun q y => ?_) (fun e w' q => by cases q)
        split
        · rw [Sem.run_bind]
          refine andThen_ne (fun u z => ?_) (fun e w' q => by cases q)
          intro he
          simp at he
        · intro he
          simp at he
      · simp at he
    · simp at he
  all_goals first | (cases h; done) | exact key _ | (intro he; simp at he)

theorem wpOp_of_plainN {i : Nat} {o : Oper} {a : Act} {K : Act → Prop} {K' : Act → World → Prop} {Q' : Exit → Act → World → Prop} {w : World} (ho : ops[i]? = some o) (hp : plainN o = true) (hC : C w) (h : ∀ v, K (a.put o.dst v) → K' (a.put o.dst v) w) (hh : qOp P ops C i K a) : wpOp P ops Q' i K' a w := by
  unfold qOp at hh
  unfold wpOp
  simp only [ho] at hh ⊢
  split
  · rename_i hw
    simp only [hw, if_true] at hh
    refine .inl ?_
    obtain ⟨v, h1, h2⟩ := hh
    have h3 := h1 w hC
    have h4 := noEnterN (P := P) hp a.eval w
    unfold Oper.quietAt at h3
    unfold Oper.wp
    generalize (execOp a.eval o).run P w = r at *
    cases r with
    | ok n w' =>
      cases n <;> simp only [Oper.quietUpon] at h3 <;> simp only [Oper.upon]
      case value u =>
        obtain ⟨e1, e2⟩ := h3
        rw [e1, e2]
        exact h _ h2
      case skip =>
        obtain ⟨e1, e2⟩ := h3
        rw [e1, ← e2]
        exact h _ h2
      case enter f args =>
        exact absurd rfl (h4 w' f args)
    | halt x w' => simp only [Oper.quietUpon] at h3
  · rename_i hw; simp only [hw] at hh; exact h _ hh

def kindsN (md : Region.Mode) (ops : Array Oper) (m N : Nat) (t : TypeId) (d v : Tmp) : Bool :=
  (match ops[m]? with | some o => decide (makeT o = some (t, v)) && decide (o.dst = some d) | none => false) && decide (d < N) && decide (d ≠ v) &&
  (List.range m).all (fun i => match ops[i]? with
    | some o => decide (makeT o = none) && (plainN o || reachB md ops 8 m i) && decide (o.dst ≠ some d) && (decide (o.dst ≠ some v) || reachB md ops 8 m i)
    | none => false)
structure KindsN (md : Region.Mode) (ops : Array Oper) (m N : Nat) (t : TypeId) (d v : Tmp) : Prop where
  made : ∃ om, ops[m]? = some om ∧ makeT om = some (t, v) ∧ om.dst = some d
  lt : d < N
  ne : d ≠ v
  head : ∀ i o, i < m → ops[i]? = some o → makeT o = none ∧ (plainN o = true ∨ reachB md ops 8 m i = true) ∧ o.dst ≠ some d ∧ (o.dst ≠ some v ∨ reachB md ops 8 m i = true)
theorem kindsN_of {m N : Nat} {t : TypeId} {d v : Tmp} (h : kindsN md ops m N t d v = true) : KindsN md ops m N t d v := by
  unfold kindsN at h
  simp only [Bool.and_eq_true, decide_eq_true_eq] at h
  obtain ⟨⟨⟨h1, h2⟩, h3⟩, h4⟩ := h
  refine ⟨?_, h2, h3, fun i o hi ho => ?_⟩
  · cases hm : ops[m]? with
    | none => rw [hm] at h1; cases h1
    | some om =>
      rw [hm] at h1
      simp only [Bool.and_eq_true, decide_eq_true_eq] at h1
      exact ⟨om, rfl, h1.1, h1.2⟩
  · have := List.all_eq_true.1 h4 i (List.mem_range.2 hi)
    rw [ho] at this
    simp only [Bool.and_eq_true, Bool.or_eq_true, decide_eq_true_eq] at this
    exact ⟨this.1.1.1, this.1.1.2, this.1.2, this.2⟩

/-- the making of a slice of one element -/
theorem wpAny_of_N {T t : TypeId} {d v : Tmp} {cs : Value → Array Value} {N m g : Nat} {W : World} {L : Array Bool → Act → Prop} {Q' : Exit → Act → World → Prop} (hK : KindsN md ops m N t d v)
    (hrun : MakeRun P t T G cs)
    (hL : ∀ listed a w', Below W.heap.size W w' → (listed.getD m false = true → ∃ B, a.eval (.tmp d) = sl1 B ∧ W.heap.size ≤ B ∧ Blk w' B T (cs (a.eval (.tmp v)))) → L listed a → wpAny P md ops Q' g listed a w') :
    ∀ (f : Nat) (listed : Array Bool) (a : Act) (w : World), Below W.heap.size W w → HeadInv md ops (m + 1) listed → a.tmps.size = N → (listed.getD m false = true → ∃ B, a.eval (.tmp d) = sl1 B ∧ W.heap.size ≤ B ∧ Blk w B T (cs (a.eval (.tmp v)))) →
      wpAnyM P md ops (fun w' => ∃ e : ExtW W, w' = e.val) G (m + 1) L f listed a → wpAny P md ops Q' (f + g) listed a w
  | 0, listed, a, w, hw, _, _, hi, h => by rw [Nat.zero_add]; exact hL listed a w hw hi h
  | f + 1, listed, a, w, hw, inv, hN, hinv, h => by
    rw [show f + 1 + g = (f + g) + 1 by omega]
    refine ⟨fun h0 => absurd h0 h.1, fun i hi => ?_⟩
    obtain ⟨hiun, o, ho, _⟩ := mem_ready.1 hi
    have hun := getD_both hiun
    obtain ⟨hin, h1⟩ := h.2 i hi
    have inv' := inv.set hi hin
    by_cases him : i < m
    · obtain ⟨k1, k2, k3, k4⟩ := hK.head i o him ho
      have hq := (mOp_quiet ho k1).1 h1
      have hset : (listed.setIfInBounds i true).getD m false = listed.getD m false := getD_set_false (by omega)
      cases hm : listed.getD m false with
      | true =>
        have hnr : ¬ reachB md ops 8 m i = true := fun hr => by
          have := reach_listed inv 8 m i hr hm
          rw [this] at hun; cases hun
        have hp : plainN o = true := k2.resolve_right hnr
        have hv : o.dst ≠ some v := k4.resolve_right hnr
        refine wpOp_of_plainN (C := fun w' => ∃ e : ExtW W, w' = e.val) ho hp ⟨⟨w, hw⟩, rfl⟩ (fun u hu => ?_) hq
        refine wpAny_of_N hK hrun hL f _ _ w hw inv' ((put_size _ _ _).trans hN) (fun _ => ?_) hu
        rw [eval_put_ne k3, eval_put_ne hv]
        exact hinv hm
      | false =>
        refine wpOp_of_qOp (C := fun w' => (∃ e : ExtW W, w' = e.val)) (K := fun a' => a'.tmps.size = N ∧ wpAnyM P md ops (fun w' => ∃ e : ExtW W, w' = e.val) G (m + 1) L f (listed.setIfInBounds i true) a') ⟨⟨w, hw⟩, rfl⟩ (fun a' w' hw' hu => ?_) (qOp_size ho hN hq)
        obtain ⟨e, rfl⟩ := hw'
        exact wpAny_of_N hK hrun hL f _ a' e.val e.below inv' hu.1 (fun hh => by rw [hset, hm] at hh; cases hh) hu.2
    · have him' : i = m := by omega
      subst him'
      obtain ⟨om, hom, hmk, hd⟩ := hK.made
      have : om = o := Option.some.inj (hom.symm.trans ho)
      subst this
      obtain ⟨hG, h2⟩ := (mOp_make ho hmk).1 h1
      obtain ⟨hop, hg⟩ := makeT_spec hmk
      have hr : (execOp a.eval om).run P w = .ok (.value (sl1 w.heap.size)) (w.alloc (.cells (cs (a.eval (.tmp v))) T)) := by
        unfold execOp
        rw [hop]
        have hp : (#[((0 : Nat), Operand.tmp v)].map fun (x : Nat × Operand) => (x.1, a.eval x.2)) = #[(0, a.eval (.tmp v))] := by simp
        show ((do pure (Next.value (← Instr.buildSlice t 1 (#[((0 : Nat), Operand.tmp v)].map fun (x : Nat × Operand) => (x.1, a.eval x.2))))) : Sem Next).run P w = _
        rw [hp, Sem.run_bind, hrun w _ hG]
        rfl
      unfold wpOp
      simp only [ho]
      rw [if_pos (by simp [Region.wanted, hg])]
      refine .inl ?_
      unfold Oper.wp
      rw [hr]
      refine wpAny_of_N hK hrun hL f _ _ _ (Below.alloc hw hw.size _) inv' ((put_size _ _ _).trans hN) (fun _ => ⟨w.heap.size, ?_, hw.size, ?_⟩) (h2 w.heap.size)
      · rw [hd]; exact eval_put (by rw [hN]; exact hK.lt)
      · rw [eval_put_ne (by rw [hd]; exact fun e => hK.ne (Option.some.inj e))]
        exact Blk.new w T _

def headsB (md : Region.Mode) (ops : Array Oper) (b m : Nat) (listed : Array Bool) : Bool :=
  (List.range b).all (fun j => listed.getD j false) && decide (listed.getD m false = false) && quietB md ops (lastB md ops (ops.size - (m + 1)) m) (m - b) b listed
def makesH (md : Region.Mode) (ops : Array Oper) (b m N : Nat) (t : TypeId) (d v : Tmp) : Bool :=
  Region.noSelect ops && decide (m + 1 < ops.size) && decide (b ≤ m) && sinkB md ops b (m + 1) && Region.chainB md ops (m + 1) && movesB md ops (headsB md ops b m) b 0 (Array.replicate ops.size false) && kindsN md ops m N t d v
theorem wp_region_makeH {id : Nat} {Q : Exit → Act → World → Prop} {a : Act} {w : World} {l : List Oper} (b m N : Nat) (t T : TypeId) (d v : Tmp) (G : Value → Prop) (cs : Value → Array Value) (hm : P.follows .mixedOrders = true) (hB : makesH .any l.toArray b m N t d v = true) (hN : a.tmps.size = N)
    (hQ : ∀ d v c a w, Q (.panic c) (Act.put a d v) w → Q (.panic c) a w)
    (hrun : MakeRun P t T G cs)
    (h : wpQuiet P l.toArray (fun w' => ∃ e : ExtW w, w' = e.val) (fun a' => G (a'.eval (.tmp v)) ∧ ∀ B : Nat, ∀ w' : World, Below w.heap.size w w' → w.heap.size ≤ B → Blk w' B T (cs (a'.eval (.tmp v))) → wpList P l.toArray Q (l.drop (m + 1)) (a'.put (some d) (sl1 B)) w') (l.take m) a) : (Code.region id l.toArray true).wp P Q a w := by
  simp only [makesH, Bool.and_eq_true, decide_eq_true_eq] at hB
  obtain ⟨⟨⟨⟨⟨⟨hsel, hn⟩, hbm⟩, hs⟩, hc⟩, hq⟩, hk⟩ := hB
  have hK := kindsN_of hk
  obtain ⟨om, hom, hmk, hd⟩ := hK.made
  have hn' : m + 1 < l.length := by simpa using hn
  have hdl : (l.drop (m + 1)).length = l.toArray.size - (m + 1) := by simp
  have inv0 : HeadInv .any l.toArray (m + 1) (Array.replicate l.toArray.size false) :=
    ⟨by simp, fun j oj _ hl => (by rw [getD_replicate_false] at hl; cases hl), fun t _ ht => getD_in (by simpa using ht) (getD_replicate_false _ _)⟩
  have hsplit : l.take m = l.take b ++ (l.drop b).take (m - b) := by
    have := List.take_append_drop b (l.take m)
    rw [List.take_take, Nat.min_eq_left hbm, List.drop_take] at this
    exact this.symm
  have hbl : (l.take b).length = b := by simp; omega
  have hml : ((l.drop b).take (m - b)).length = m - b := by simp; omega
  refine wp_region_any hm ?_
  have h' : wpQuiet P l.toArray (fun w' => ∃ e : ExtW w, w' = e.val) (fun a' => a'.tmps.size = N ∧ G (a'.eval (.tmp v)) ∧ ∀ B, (fun a'' => ∀ B w', Below w.heap.size w w' → a''.eval (.tmp d) = sl1 B → w.heap.size ≤ B → Blk w' B T (cs (a''.eval (.tmp v))) → wpList P l.toArray Q (l.drop (m + 1)) a'' w') (a'.put om.dst (sl1 B))) (l.take m) a := by
    refine wpQuiet_size (N := N) hN (fun a' hN' ha' => ⟨hN', ha'.1, fun B B' w' hb he hB' hblk => ?_⟩) h
    rw [hd] at he hblk ⊢
    rw [eval_put (by rw [hN']; exact hK.lt)] at he
    rw [eval_put_ne (fun e => hK.ne (Option.some.inj e))] at hblk
    have : B = B' := by
      unfold sl1 at he
      injection he with he
      injection he with he
      injection he with he
    subst this
    exact ha'.2 B w' hb hB' hblk
  rw [hsplit] at h'
  have hw : (fun w' => ∃ e : ExtW w, w' = e.val) { w with drawn := w.drawn + 1 } := ⟨⟨_, bdrew w⟩, rfl⟩
  have H := wpAny_moves (md := .any) (n := m + 1) (Q' := Q) (g := m - b + 1 + (l.toArray.size - (m + 1))) (R := headsB .any l.toArray b m) hw hsel hQ ((l.drop b).take (m - b))
    (fun listed a' inv hR hq2 => by
      simp only [headsB, Bool.and_eq_true, decide_eq_true_eq] at hR
      obtain ⟨⟨r1, r2⟩, r3⟩ := hR
      have hN' := size_back hq2
      have H1 := wpAnyH_quiets (P := P) (md := .any) (G := G) (C := fun w' => ∃ e : ExtW w, w' = e.val) (b := b) (m := m) (g := l.toArray.size - (m + 1)) (Lq := fun a'' => ∀ B w', Below w.heap.size w w' → a''.eval (.tmp d) = sl1 B → w.heap.size ≤ B → Blk w' B T (cs (a''.eval (.tmp v))) → wpList P l.toArray Q (l.drop (m + 1)) a'' w') hom hmk hsel hs hc hn (fun j oj hj hoj => (hK.head j oj hj hoj).1) ((l.drop b).take (m - b)) b listed a' (Nat.le_refl _)
        (fun j hj => by
          have hj' : j < m - b := by rw [hml] at hj; exact hj
          rw [List.getElem?_take, if_pos hj', List.getElem?_drop]; simp) (by rw [hml]; omega) inv (fun j hj => List.all_eq_true.1 r1 j (List.mem_range.2 hj)) (by rw [hml]; exact r3) (drop_size hq2)
      have H2 := wpAny_of_N (P := P) (md := .any) (W := w) (T := T) (t := t) (d := d) (v := v) (cs := cs) (N := N) (m := m) (g := l.toArray.size - (m + 1)) (Q' := Q) hK hrun
        (fun listed a'' w' hw' hi hL => by
          obtain ⟨B, h1, h2, h3⟩ := hi hL.2.1
          have := wpAny_of_seq (md := .any) (Q' := Q) (l.drop (m + 1)) (m + 1) listed a'' w' (fun j => by simp [List.getElem?_drop]) (by rw [hdl]; exact hL.1) (hL.2.2 B w' hw' h1 h2 h3)
          rwa [hdl] at this) _ _ _ { w with drawn := w.drawn + 1 } (bdrew w) inv hN' (fun hl => by rw [r2] at hl; cases hl) H1
      rw [hml] at H2
      exact H2) (l.take b) 0 (Array.replicate l.toArray.size false) a (fun j hj => by
        have hj' : j < b := by rw [hbl] at hj; exact hj
        rw [List.getElem?_take, if_pos hj', Nat.zero_add]; simp) (by rw [hbl]; omega) inv0 (by rw [hbl]; exact hq) h'
  rw [hbl, show b + (m - b + 1 + (l.toArray.size - (m + 1))) = l.toArray.size by have : l.toArray.size = l.length := rfl; omega] at H
  exact H
end
end Go.Ks.Make
