/- A region that draws its order: operations that only read, several blocks that it makes, and one store into each of them, in whatever order. One walk in the order of the text serves every order. General, no program. -/
import Derived.Test.YthjllledhcfnhaaGreatDoorTail
namespace Go.Ks
open Go.RowKit Go.Lib
section
variable {P : Program} {ops : Array Oper} {md : Region.Mode}

/-- an operation that makes a zero block -/
def allocT (o : Oper) : Option TypeId := match o.op, o.guard with | .alloc t, none => some t | _, _ => none
/-- an operation that only reads and calls nothing -/
def plainRead (o : Oper) : Bool := match o.op with | .move _ | .assign _ | .load .. | .binOp .. | .unOp .. | .fieldAddr .. | .indexAddr .. | .extract .. => true | _ => false
theorem noEnter {o : Oper} (h : plainRead o = true) (ρ : Operand → Value) (w w' : World) (f : FuncId) (args : Array Value) : (execOp ρ o).run P w ≠ .ok (.enter f args) w' := by
  have key : ∀ s : Sem Value, ((do pure (Next.value (← s))) : Sem Next).run P w ≠ .ok (.enter f args) w' := fun s he => by
    rw [Sem.run_bind] at he
    cases hs : s.run P w with
    | ok u x => rw [hs] at he; simp [Result.andThen] at he
    | halt u x => rw [hs] at he; simp [Result.andThen] at he
  unfold plainRead at h
  unfold execOp
  generalize o.op = op at *
  cases op <;> first | (cases h; done) | exact key _ | (intro he; simp at he)

/-- a store of one slot's value into the block of another slot -/
def storeT (o : Oper) : Option (TypeId × Tmp × Tmp) := match o.op, o.guard, o.dst with | .store t (.tmp d) (.tmp v), none, none => some (t, d, v) | _, _, _ => none
theorem storeT_spec {o : Oper} {t : TypeId} {d v : Tmp} (h : storeT o = some (t, d, v)) : o.op = .store t (.tmp d) (.tmp v) ∧ o.guard = none ∧ o.dst = none := by
  unfold storeT at h
  split at h
  · rename_i h1 h2 h3
    injection h with h
    injection h with e1 h
    injection h with e2 e3
    subst e1 e2 e3
    exact ⟨h1, h2, h3⟩
  · cases h
theorem allocT_spec {o : Oper} {t : TypeId} (h : allocT o = some t) : o.op = .alloc t ∧ o.guard = none := by
  unfold allocT at h
  split at h
  · rename_i t h1 h2; injection h with h; subst h; exact ⟨h1, h2⟩
  · cases h
theorem storeT_alloc {o : Oper} {x : TypeId × Tmp × Tmp} (h : storeT o = some x) : allocT o = none := by
  obtain ⟨t, d, v⟩ := x
  obtain ⟨h1, _, _⟩ := storeT_spec h
  cases ha : allocT o with
  | none => rfl
  | some t' => have := (allocT_spec ha).1; rw [h1] at this; cases this
theorem plain_alloc {o : Oper} (h : plainRead o = true) : allocT o = none := by
  cases ha : allocT o with
  | none => rfl
  | some t' => unfold plainRead at h; rw [(allocT_spec ha).1] at h; cases h
theorem plain_store {o : Oper} (h : plainRead o = true) : storeT o = none := by
  cases ha : storeT o with
  | none => rfl
  | some x => obtain ⟨t, d, v⟩ := x; unfold plainRead at h; rw [(storeT_spec ha).1] at h; cases h

variable {G : Value → Prop}
def mOp (P : Program) (ops : Array Oper) (C : World → Prop) (G : Value → Prop) (i : Nat) (K : Act → Prop) (a : Act) : Prop :=
  match ops[i]? with
  | none => K a
  | some o => match allocT o with
    | some _ => ∀ B : Nat, K (a.put o.dst (.pointer (some ⟨B, 0, none⟩)))
    | none => match storeT o with
      | some x => G (a.eval (.tmp x.2.2)) ∧ K a
      | none => qOp P ops C i K a
theorem mOp_mono {C : World → Prop} {i : Nat} {a : Act} {K K' : Act → Prop} (h : ∀ a, K a → K' a) (hh : mOp P ops C G i K a) : mOp P ops C G i K' a := by
  unfold mOp at *
  split
  · rename_i ho; simp only [ho] at hh; exact h _ hh
  · rename_i o ho
    simp only [ho] at hh
    split
    · rename_i t ht; simp only [ht] at hh; exact fun B => h _ (hh B)
    · rename_i ht
      simp only [ht] at hh
      split
      · rename_i x hx; simp only [hx] at hh; exact ⟨hh.1, h _ hh.2⟩
      · rename_i hx; simp only [hx] at hh; exact qOp_mono h hh
theorem mOp_alloc {C : World → Prop} {i : Nat} {a : Act} {K : Act → Prop} {o : Oper} {t : TypeId} (ho : ops[i]? = some o) (ht : allocT o = some t) : mOp P ops C G i K a ↔ ∀ B : Nat, K (a.put o.dst (.pointer (some ⟨B, 0, none⟩))) := by
  unfold mOp
  simp only [ho, ht]
theorem mOp_store {C : World → Prop} {i : Nat} {a : Act} {K : Act → Prop} {o : Oper} {x : TypeId × Tmp × Tmp} (ho : ops[i]? = some o) (hx : storeT o = some x) : mOp P ops C G i K a ↔ G (a.eval (.tmp x.2.2)) ∧ K a := by
  unfold mOp
  simp only [ho, storeT_alloc hx, hx]
theorem mOp_quiet {C : World → Prop} {i : Nat} {a : Act} {K : Act → Prop} {o : Oper} (ho : ops[i]? = some o) (ht : allocT o = none) (hx : storeT o = none) : mOp P ops C G i K a ↔ qOp P ops C i K a := by
  unfold mOp
  simp only [ho, ht, hx]
/-- a store sees nothing of a slot that is apart from it -/
theorem store_eval {o oj : Oper} {x : TypeId × Tmp × Tmp} (hx : storeT oj = some x) (hap : o.apart ops oj = true) (a : Act) (u : Value) : (a.put o.dst u).eval (.tmp x.2.2) = a.eval (.tmp x.2.2) := by
  obtain ⟨t, d, v⟩ := x
  obtain ⟨h1, _, _⟩ := storeT_spec hx
  obtain ⟨q1, _, _⟩ := Oper.apart_spec hap
  refine Act.eval_put fun d' hd' he => ?_
  injection he with he
  have := q1 d' hd'
  apply this
  subst he
  simp [Oper.looksAt, h1, Op.operands]

def wpAnyM (P : Program) (md : Region.Mode) (ops : Array Oper) (C : World → Prop) (G : Value → Prop) (L : Array Bool → Act → Prop) : Nat → Array Bool → Act → Prop
  | 0, listed, a => L listed a
  | f + 1, listed, a =>
    Region.ready md ops listed ≠ [] ∧ ∀ i ∈ Region.ready md ops listed, mOp P ops C G i (wpAnyM P md ops C G L f (listed.setIfInBounds i true)) a

variable {C : World → Prop}
theorem free_set {oi : Oper} {i j : Nat} {listed : Array Bool} (hjun : listed.getD j true = false)
    (hfree : ∀ k ok, ops[k]? = some ok → k ≠ i → listed.getD k true = false → (∀ e ∈ ok.after, Region.binds md e = true → e.on ≠ i) → oi.apart ops ok = true) :
    ∀ k ok, ops[k]? = some ok → k ≠ i → (listed.setIfInBounds j true).getD k true = false → (∀ e ∈ ok.after, Region.binds md e = true → e.on ≠ i) → oi.apart ops ok = true := fun k ok hk hki hun hno => by
  refine hfree k ok hk hki ?_ hno
  by_cases hjk : j = k
  · subst hjk; exact hjun
  · rw [getD_set_ne true hjk] at hun; exact hun
/-- an operation that only reads may be taken first -/
theorem wpAnyM_first {i : Nat} {oi : Oper} {v : Value} {L : Array Bool → Act → Prop} (hi : ops[i]? = some oi) (hti : allocT oi = none) (hxi : storeT oi = none) (hsel : ∀ (j : Nat) (o : Oper) cs b, ops[j]? = some o → o.op ≠ .select cs b)
    (hdone : ∀ listed a, L listed a → Region.ready md ops listed = []) :
    ∀ (f : Nat) (listed : Array Bool) (a : Act),
      (∀ j oj, ops[j]? = some oj → j ≠ i → listed.getD j true = false → (∀ e ∈ oj.after, Region.binds md e = true → e.on ≠ i) → oi.apart ops oj = true) →
      i ∈ Region.ready md ops listed → YieldsIn P ops C oi v a →
      wpAnyM P md ops C G L f (listed.setIfInBounds i true) (a.put oi.dst v) → wpAnyM P md ops C G L (f + 1) listed a := by
  intro f
  induction f with
  | zero =>
    intro listed a _ hr hy H
    refine ⟨fun h => (by rw [h] at hr; cases hr), fun j hj => ?_⟩
    by_cases hji : j = i
    · subst hji; exact (mOp_quiet hi hti hxi).2 (hy.qOp hi H)
    · have := ready_mono hj hji
      rw [hdone _ _ H] at this
      cases this
  | succ f ih =>
    intro listed a hfree hr hy H
    have hun := (mem_ready.1 hr).1
    refine ⟨fun h => (by rw [h] at hr; cases hr), fun j hj => ?_⟩
    by_cases hji : j = i
    · subst hji; exact (mOp_quiet hi hti hxi).2 (hy.qOp hi H)
    · have h1 := H.2 j (ready_mono hj hji)
      obtain ⟨hjun, oj, hoj, hall⟩ := mem_ready.1 hj
      have hnot : ∀ e ∈ oj.after, Region.binds md e = true → e.on ≠ i := fun e he hb heq => by
        have h1 := hall e he hb
        rw [heq, getD_both hun] at h1
        cases h1
      have hap := hfree j oj hoj hji hjun hnot
      have h2 : mOp P ops C G j (fun a' => YieldsIn P ops C oi v a' ∧ wpAnyM P md ops C G L f ((listed.setIfInBounds i true).setIfInBounds j true) (a'.put oi.dst v)) a := by
        cases htj : allocT oj with
        | some t =>
          rw [mOp_alloc hoj htj] at h1 ⊢
          obtain ⟨q1, q2, q3⟩ := Oper.apart_spec hap
          intro B
          refine ⟨hy.of_same (execOp_put oi (fun cs b => hsel i oi cs b hi) a oj.dst _ q3) (wanted_put oi a oj.dst _ q3), ?_⟩
          rw [← Act.put_comm a v _ q2]
          exact h1 B
        | none =>
          cases hxj : storeT oj with
          | none => exact (mOp_quiet hoj htj hxj).2 (qOp_put hoj hap (fun cs b => hsel i oi cs b hi) (fun cs b => hsel j oj cs b hoj) hy ((mOp_quiet hoj htj hxj).1 h1))
          | some x =>
            rw [mOp_store hoj hxj] at h1 ⊢
            rw [store_eval hxj hap] at h1
            exact ⟨h1.1, hy, h1.2⟩
      refine mOp_mono (fun a' h3 => ih (listed.setIfInBounds j true) a' (free_set hjun hfree) (ready_mono hr (Ne.symm hji)) h3.1 ?_) h2
      rw [Array.setIfInBounds_comm _ _ hji]
      exact h3.2

/-- where only blocks and stores are left, a block may be made first -/
theorem wpAnyM_alloc {m i : Nat} {oi : Oper} {t : TypeId} {L : Array Bool → Act → Prop} (hi : ops[i]? = some oi) (hti : allocT oi = some t)
    (hal : ∀ j oj, m ≤ j → ops[j]? = some oj → (∃ t, allocT oj = some t) ∨ ∃ x, storeT oj = some x)
    (hdone : ∀ listed a, L listed a → Region.ready md ops listed = []) :
    ∀ (f : Nat) (listed : Array Bool) (a : Act), (∀ j, j < m → listed.getD j true = true) →
      (∀ j oj, ops[j]? = some oj → j ≠ i → listed.getD j true = false → (∀ e ∈ oj.after, Region.binds md e = true → e.on ≠ i) → oi.apart ops oj = true) →
      i ∈ Region.ready md ops listed →
      (∀ B : Nat, wpAnyM P md ops C G L f (listed.setIfInBounds i true) (a.put oi.dst (.pointer (some ⟨B, 0, none⟩)))) → wpAnyM P md ops C G L (f + 1) listed a := by
  intro f
  induction f with
  | zero =>
    intro listed a _ _ hr H
    refine ⟨fun h => (by rw [h] at hr; cases hr), fun j hj => ?_⟩
    by_cases hji : j = i
    · subst hji; exact (mOp_alloc hi hti).2 H
    · have := ready_mono hj hji
      rw [hdone _ _ (H 0)] at this
      cases this
  | succ f ih =>
    intro listed a hlow hfree hr H
    have hun := (mem_ready.1 hr).1
    refine ⟨fun h => (by rw [h] at hr; cases hr), fun j hj => ?_⟩
    by_cases hji : j = i
    · subst hji; exact (mOp_alloc hi hti).2 H
    · obtain ⟨hjun, oj, hoj, hall⟩ := mem_ready.1 hj
      have hjm : m ≤ j := by
        rcases Nat.lt_or_ge j m with h | h
        · rw [hlow j h] at hjun; cases hjun
        · exact h
      have hnot : ∀ e ∈ oj.after, Region.binds md e = true → e.on ≠ i := fun e he hb heq => by
        have h1 := hall e he hb
        rw [heq, getD_both hun] at h1
        cases h1
      have hap := hfree j oj hoj hji hjun hnot
      obtain ⟨_, q2, _⟩ := Oper.apart_spec hap
      have hlow' : ∀ k, k < m → (listed.setIfInBounds j true).getD k true = true := fun k hk => by
        rw [getD_set_ne true (by omega)]; exact hlow k hk
      rcases hal j oj hjm hoj with ⟨tj, htj⟩ | ⟨x, hxj⟩
      · rw [mOp_alloc hoj htj]
        intro B'
        refine ih (listed.setIfInBounds j true) _ hlow' (free_set hjun hfree) (ready_mono hr (Ne.symm hji)) fun B => ?_
        have h1 := (mOp_alloc hoj htj).1 ((H B).2 j (ready_mono hj hji)) B'
        rw [Array.setIfInBounds_comm _ _ hji, ← Act.put_comm a _ _ q2]
        exact h1
      · rw [mOp_store hoj hxj]
        have h0 := (mOp_store hoj hxj).1 ((H 0).2 j (ready_mono hj hji))
        rw [store_eval hxj hap] at h0
        refine ⟨h0.1, ih (listed.setIfInBounds j true) _ hlow' (free_set hjun hfree) (ready_mono hr (Ne.symm hji)) fun B => ?_⟩
        have h1 := (mOp_store hoj hxj).1 ((H B).2 j (ready_mono hj hji))
        rw [Array.setIfInBounds_comm _ _ hji]
        exact h1.2

/-- the walk over the blocks, in the order of the text -/
def allocQ : List Oper → Act → (Act → Prop) → Prop
  | [], a, Q => Q a
  | o :: rest, a, Q => ∀ B : Nat, allocQ rest (a.put o.dst (.pointer (some ⟨B, 0, none⟩))) Q
/-- what the stores ask -/
def storesQ (G : Value → Prop) : List Oper → Act → Prop
  | [], _ => True
  | o :: rest, a => (match storeT o with | some x => G (a.eval (.tmp x.2.2)) | none => False) ∧ storesQ G rest a
def allocB (md : Region.Mode) (ops : Array Oper) (g n : Nat) : Nat → Nat → Array Bool → Bool
  | 0, _, listed => Region.seqB md ops g n listed
  | f + 1, k, listed => (Region.ready md ops listed).contains k && Region.free md ops listed k && allocB md ops g n f (k + 1) (listed.setIfInBounds k true)
def quietB (md : Region.Mode) (ops : Array Oper) (rest : Array Bool → Bool) : Nat → Nat → Array Bool → Bool
  | 0, _, listed => rest listed
  | f + 1, k, listed => (Region.ready md ops listed).contains k && Region.free md ops listed k && quietB md ops rest f (k + 1) (listed.setIfInBounds k true)
theorem getD_set_false {listed : Array Bool} {i j : Nat} {b : Bool} (hij : i ≠ j) : (listed.setIfInBounds i b).getD j false = listed.getD j false := by
  simp [Array.getElem?_setIfInBounds_ne hij]
theorem getD_up {listed : Array Bool} {j : Nat} (h : listed.getD j false = true) : listed.getD j true = true := by
  rcases Nat.lt_or_ge j listed.size with h' | h'
  · simp [h'] at h ⊢; exact h
  · simp [Array.getElem?_eq_none h'] at h
theorem low_set {listed : Array Bool} {k : Nat} (hk : k < listed.size) (hlow : ∀ j, j < k → listed.getD j false = true) : ∀ j, j < k + 1 → (listed.setIfInBounds k true).getD j false = true := fun j hj => by
  by_cases hjk : k = j
  · subst hjk; simp [hk]
  · rw [getD_set_false hjk]; exact hlow j (by omega)

/-- all is listed, and nothing is left -/
def Done (md : Region.Mode) (ops : Array Oper) (Lq : Act → Prop) (listed : Array Bool) (a : Act) : Prop := Region.ready md ops listed = [] ∧ (∀ j, j < ops.size → listed.getD j false = true) ∧ Lq a

theorem wpAnyM_stores {Lq : Act → Prop} : ∀ (l : List Oper) (k : Nat) (listed : Array Bool) (a : Act), (∀ j, j < l.length → l[j]? = ops[k + j]?) → k + l.length = ops.size → listed.size = ops.size → (∀ j, j < k → listed.getD j false = true) →
    Region.seqB md ops l.length k listed = true → storesQ G l a → Lq a → wpAnyM P md ops C G (Done md ops Lq) l.length listed a
  | [], k, listed, a, _, hk, _, hlow, hB, _, h => ⟨by simpa [Region.seqB] using hB, fun j hj => hlow j (by simp at hk; omega), h⟩
  | o :: l, k, listed, a, hl, hk, hsz, hlow, hB, hst, h => by
    have h0 : ops[k]? = some o := by simpa using (hl 0 (by simp)).symm
    simp only [List.length_cons, Region.seqB, Bool.and_eq_true, decide_eq_true_eq] at hB
    obtain ⟨hs1, hs2⟩ := hst
    have hks : k < listed.size := by rw [hsz]; exact (Array.getElem?_eq_some_iff.1 h0).1
    refine ⟨fun h1 => (by rw [hB.1] at h1; cases h1), fun i hi => ?_⟩
    rw [hB.1] at hi
    have hik : i = k := by simpa using hi
    subst hik
    cases hx : storeT o with
    | none => rw [hx] at hs1; exact hs1.elim
    | some x =>
      rw [hx] at hs1
      exact (mOp_store h0 hx).2 ⟨hs1, wpAnyM_stores l (i + 1) _ a (fun j hj => by have := hl (j + 1) (by simp; omega); simpa [Nat.add_assoc, Nat.add_comm 1 j] using this) (by simp only [List.length_cons] at hk; omega) (by simpa using hsz) (low_set hks hlow) hB.2 hs2 h⟩

theorem wpAnyM_allocs {m n : Nat} {Lq : Act → Prop} (ls : List Oper) (hls : ∀ j, j < ls.length → ls[j]? = ops[n + j]?) (hn : n + ls.length = ops.size)
    (hal : ∀ j oj, m ≤ j → ops[j]? = some oj → (∃ t, allocT oj = some t) ∨ ∃ x, storeT oj = some x) :
    ∀ (l : List Oper) (k : Nat) (listed : Array Bool) (a : Act), m ≤ k → (∀ o ∈ l, ∃ t, allocT o = some t) → (∀ j, j < l.length → l[j]? = ops[k + j]?) → k + l.length = n → listed.size = ops.size → (∀ j, j < k → listed.getD j false = true) →
    allocB md ops ls.length n l.length k listed = true → allocQ l a (fun a' => storesQ G ls a' ∧ Lq a') →
    wpAnyM P md ops C G (Done md ops Lq) (l.length + ls.length) listed a
  | [], k, listed, a, _, _, _, hk, hsz, hlow, hB, h => by
    have hkn : k = n := by simpa using hk
    subst hkn
    rw [List.length_nil, Nat.zero_add]
    exact wpAnyM_stores ls k listed a hls hn hsz hlow (by simpa [allocB] using hB) h.1 h.2
  | o :: l, k, listed, a, hmk, hall, hl, hk, hsz, hlow, hB, h => by
    have h0 : ops[k]? = some o := by simpa using (hl 0 (by simp)).symm
    simp only [List.length_cons, allocB, Bool.and_eq_true] at hB
    obtain ⟨⟨hr, hf⟩, hB'⟩ := hB
    have hr' : k ∈ Region.ready md ops listed := by simpa using hr
    obtain ⟨t, ht⟩ := hall o (List.mem_cons_self ..)
    have hks : k < listed.size := by rw [hsz]; exact (Array.getElem?_eq_some_iff.1 h0).1
    rw [show (o :: l).length + ls.length = (l.length + ls.length) + 1 by simp; omega]
    refine wpAnyM_alloc h0 ht hal (fun listed' a' hL => hL.1) (l.length + ls.length) listed a (fun j hj => getD_up (hlow j (by omega))) (Region.free_spec h0 hf) hr' fun B => ?_
    exact wpAnyM_allocs ls hls hn hal l (k + 1) _ _ (by omega) (fun o' ho' => hall o' (List.mem_cons_of_mem _ ho')) (fun j hj => by have := hl (j + 1) (by simp; omega); simpa [Nat.add_assoc, Nat.add_comm 1 j] using this) (by simp only [List.length_cons] at hk; omega) (by simpa using hsz) (low_set hks hlow) hB' (h B)

theorem wpAnyM_quiets {m n : Nat} {Lq : Act → Prop} (hsel : Region.noSelect ops = true) (la ls : List Oper) (hla : m + la.length = n) (hls : ∀ j, j < ls.length → ls[j]? = ops[n + j]?) (hn : n + ls.length = ops.size)
    (hal : ∀ j oj, m ≤ j → ops[j]? = some oj → (∃ t, allocT oj = some t) ∨ ∃ x, storeT oj = some x) (hall : ∀ o ∈ la, ∃ t, allocT o = some t) (hlo : ∀ j, j < la.length → la[j]? = ops[m + j]?) :
    ∀ (l : List Oper) (k : Nat) (listed : Array Bool) (a : Act), (∀ o ∈ l, plainRead o = true) → (∀ j, j < l.length → l[j]? = ops[k + j]?) → k + l.length = m → listed.size = ops.size → (∀ j, j < k → listed.getD j false = true) →
    quietB md ops (fun listed => allocB md ops ls.length n la.length m listed) l.length k listed = true → wpQuiet P ops C (fun a' => allocQ la a' (fun a'' => storesQ G ls a'' ∧ Lq a'')) l a →
    wpAnyM P md ops C G (Done md ops Lq) (l.length + (la.length + ls.length)) listed a
  | [], k, listed, a, _, _, hk, hsz, hlow, hB, h => by
    have hkm : k = m := by simpa using hk
    subst hkm
    rw [List.length_nil, Nat.zero_add]
    exact wpAnyM_allocs ls hls hn hal la k listed a (Nat.le_refl _) hall hlo hla hsz hlow (by simpa [quietB] using hB) h
  | o :: l, k, listed, a, hp, hl, hk, hsz, hlow, hB, h => by
    have h0 : ops[k]? = some o := by simpa using (hl 0 (by simp)).symm
    simp only [List.length_cons, quietB, Bool.and_eq_true] at hB
    obtain ⟨⟨hr, hf⟩, hB'⟩ := hB
    have hr' : k ∈ Region.ready md ops listed := by simpa using hr
    have hpo := hp o (List.mem_cons_self ..)
    have hst : qOp P ops C k (wpQuiet P ops C (fun a' => allocQ la a' (fun a'' => storesQ G ls a'' ∧ Lq a'')) l) a := by unfold qOp; simp only [h0]; exact h
    obtain ⟨v, hy, hK⟩ := yieldsIn_of_qOp h0 hst
    have hks : k < listed.size := by rw [hsz]; exact (Array.getElem?_eq_some_iff.1 h0).1
    rw [show (o :: l).length + (la.length + ls.length) = (l.length + (la.length + ls.length)) + 1 by simp; omega]
    exact wpAnyM_first h0 (plain_alloc hpo) (plain_store hpo) (Region.noSelect_spec hsel) (fun listed' a' hL => hL.1) _ listed a (Region.free_spec h0 hf) hr' hy
      (wpAnyM_quiets hsel la ls hla hls hn hal hall hlo l (k + 1) _ _ (fun o' ho' => hp o' (List.mem_cons_of_mem _ ho')) (fun j hj => by have := hl (j + 1) (by simp; omega); simpa [Nat.add_assoc, Nat.add_comm 1 j] using this) (by simp only [List.length_cons] at hk; omega) (by simpa using hsz) (low_set hks hlow) hB' hK)

/-- the blocks and stores so far -/
structure AInv (ops : Array Oper) (T : TypeId) (Z : Array Value) (G : Value → Prop) (cs : Value → Array Value) (base N m n : Nat) (listed : Array Bool) (a : Act) (w : World) : Prop where
  size : a.tmps.size = N
  made : ∀ i o d, m ≤ i → i < n → ops[i]? = some o → listed.getD i false = true → o.dst = some d → ∃ B, a.eval (.tmp d) = .pointer (some ⟨B, 0, none⟩) ∧ base ≤ B ∧ B < w.heap.size ∧ ((∀ k o' v, ops[k]? = some o' → storeT o' = some (T, d, v) → listed.getD k false = false) → Blk w B T Z)
  apart : ∀ i o d j o' d', m ≤ i → i < n → ops[i]? = some o → listed.getD i false = true → o.dst = some d → m ≤ j → j < n → ops[j]? = some o' → listed.getD j false = true → o'.dst = some d' → i ≠ j → a.eval (.tmp d) ≠ a.eval (.tmp d')
  stored : ∀ k o d v, ops[k]? = some o → storeT o = some (T, d, v) → listed.getD k false = true → ∃ B, a.eval (.tmp d) = .pointer (some ⟨B, 0, none⟩) ∧ base ≤ B ∧ G (a.eval (.tmp v)) ∧ Blk w B T (cs (a.eval (.tmp v)))
  deps : ∀ k o d v, ops[k]? = some o → storeT o = some (T, d, v) → listed.getD k false = true → ∀ i o', ops[i]? = some o' → listed.getD i false = false → o'.dst ≠ some d ∧ o'.dst ≠ some v

def edgeB (md : Region.Mode) (o : Oper) (i : Nat) : Bool := o.after.any fun e => Region.binds md e && decide (e.on = i)
def dstIn (ops : Array Oper) (i : Nat) : Option Tmp := (ops[i]?).bind (·.dst)
def kindsB (md : Region.Mode) (ops : Array Oper) (T : TypeId) (m n N : Nat) : Bool :=
  (List.range ops.size).all (fun i => match ops[i]? with
    | some o => if i < m then plainRead o else if i < n then decide (allocT o = some T) && (match o.dst with | some d => decide (d < N) | none => false) else
      (match storeT o with
        | some (t, d, v) => decide (t = T) && (List.range n).any (fun ia => decide (m ≤ ia) && decide (dstIn ops ia = some d) && edgeB md o ia) && (List.range m).any (fun iv => decide (dstIn ops iv = some v) && edgeB md o iv)
        | none => false)
    | none => false) &&
  (List.range ops.size).all (fun i => (List.range ops.size).all fun j => decide (i = j) || (match dstIn ops i with | some d => decide (dstIn ops j ≠ some d) | none => true)) &&
  (List.range ops.size).all (fun i => (List.range ops.size).all fun j => decide (i = j) || (match (ops[i]?).bind storeT, (ops[j]?).bind storeT with | some x, some y => decide (x.2.1 ≠ y.2.1) | _, _ => true))

structure Kinds (md : Region.Mode) (ops : Array Oper) (T : TypeId) (m n N : Nat) : Prop where
  read : ∀ i o, ops[i]? = some o → i < m → plainRead o = true
  made : ∀ i o, ops[i]? = some o → m ≤ i → i < n → allocT o = some T ∧ ∃ d, o.dst = some d ∧ d < N
  put : ∀ i o, ops[i]? = some o → m ≤ i → n ≤ i → ∃ d v, storeT o = some (T, d, v) ∧ (∃ ia oa, m ≤ ia ∧ ia < n ∧ ops[ia]? = some oa ∧ oa.dst = some d ∧ edgeB md o ia = true) ∧ (∃ iv ov, iv < m ∧ ops[iv]? = some ov ∧ ov.dst = some v ∧ edgeB md o iv = true)
  dst : ∀ (i j : Nat) (o o' : Oper) (d : Tmp), ops[i]? = some o → ops[j]? = some o' → i ≠ j → o.dst = some d → o'.dst ≠ some d
  slot : ∀ (i j : Nat) (o o' : Oper) t d v t' d' v', ops[i]? = some o → ops[j]? = some o' → i ≠ j → storeT o = some (t, d, v) → storeT o' = some (t', d', v') → d ≠ d'
theorem dstIn_spec {i : Nat} {d : Tmp} (h : dstIn ops i = some d) : ∃ o, ops[i]? = some o ∧ o.dst = some d := by
  unfold dstIn at h
  cases ho : ops[i]? with
  | none => rw [ho] at h; cases h
  | some o => rw [ho] at h; exact ⟨o, rfl, h⟩
theorem dstIn_of {i : Nat} {o : Oper} (h : ops[i]? = some o) : dstIn ops i = o.dst := by unfold dstIn; rw [h]; rfl
theorem lt_of_some {i : Nat} {o : Oper} (h : ops[i]? = some o) : i < ops.size := (Array.getElem?_eq_some_iff.1 h).1
theorem kinds_of {T : TypeId} {m n N : Nat} (h : kindsB md ops T m n N = true) : Kinds md ops T m n N := by
  unfold kindsB at h
  rw [Bool.and_eq_true, Bool.and_eq_true] at h
  obtain ⟨⟨h1, h2⟩, h3⟩ := h
  refine ⟨fun i o ho him => ?_, fun i o ho him hin => ?_, fun i o ho him hin => ?_, fun i j o o' d ho ho' hij hd => ?_, fun i j o o' t d v t' d' v' ho ho' hij hx hx' => ?_⟩
  · have := List.all_eq_true.1 h1 i (List.mem_range.2 (lt_of_some ho))
    rw [ho] at this
    simpa [him] using this
  · have := List.all_eq_true.1 h1 i (List.mem_range.2 (lt_of_some ho))
    rw [ho] at this
    simp only [if_neg (Nat.not_lt.2 him), if_pos hin, Bool.and_eq_true, decide_eq_true_eq] at this
    refine ⟨this.1, ?_⟩
    cases hd : o.dst with
    | none => rw [hd] at this; exact absurd this.2 (by simp)
    | some d => rw [hd] at this; exact ⟨d, rfl, by simpa using this.2⟩
  · have := List.all_eq_true.1 h1 i (List.mem_range.2 (lt_of_some ho))
    rw [ho] at this
    simp only [if_neg (Nat.not_lt.2 him), if_neg (Nat.not_lt.2 hin)] at this
    cases hx : storeT o with
    | none => rw [hx] at this; exact absurd this (by simp)
    | some x =>
      obtain ⟨t, d, v⟩ := x
      rw [hx] at this
      simp only [Bool.and_eq_true, decide_eq_true_eq] at this
      obtain ⟨⟨rfl, h4⟩, h5⟩ := this
      obtain ⟨ia, hia, h4⟩ := List.any_eq_true.1 h4
      obtain ⟨iv, hiv, h5⟩ := List.any_eq_true.1 h5
      simp only [Bool.and_eq_true, decide_eq_true_eq] at h4 h5
      obtain ⟨oa, hoa, hda⟩ := dstIn_spec h4.1.2
      obtain ⟨ov, hov, hdv⟩ := dstIn_spec h5.1
      exact ⟨d, v, rfl, ⟨ia, oa, h4.1.1, List.mem_range.1 hia, hoa, hda, h4.2⟩, iv, ov, List.mem_range.1 hiv, hov, hdv, h5.2⟩
  · have := List.all_eq_true.1 (List.all_eq_true.1 h2 i (List.mem_range.2 (lt_of_some ho))) j (List.mem_range.2 (lt_of_some ho'))
    rw [dstIn_of ho, dstIn_of ho', hd] at this
    simpa [hij] using this
  · have := List.all_eq_true.1 (List.all_eq_true.1 h3 i (List.mem_range.2 (lt_of_some ho))) j (List.mem_range.2 (lt_of_some ho'))
    rw [ho, ho'] at this
    simpa [hij, hx, hx'] using this
theorem edge_listed {i j : Nat} {o : Oper} {listed : Array Bool} (hi : i ∈ Region.ready md ops listed) (ho : ops[i]? = some o) (he : edgeB md o j = true) : listed.getD j false = true := by
  obtain ⟨_, o', ho', hall⟩ := mem_ready.1 hi
  have : o' = o := Option.some.inj (ho'.symm.trans ho)
  subst this
  obtain ⟨e, hem, he⟩ := Array.any_eq_true'.1 he
  simp only [Bool.and_eq_true, decide_eq_true_eq] at he
  have := hall e hem he.1
  rwa [he.2] at this

theorem put_size (a : Act) (d : Option Tmp) (v : Value) : (a.put d v).tmps.size = a.tmps.size := by
  cases d <;> simp [Act.put]
theorem eval_put_ne {a : Act} {d : Option Tmp} {v : Value} {k : Tmp} (h : d ≠ some k) : (a.put d v).eval (.tmp k) = a.eval (.tmp k) :=
  Act.eval_put fun d' hd' he => h (by injection he with he; rw [hd', he])
theorem eval_put {a : Act} {v : Value} {k : Tmp} (h : k < a.tmps.size) : (a.put (some k) v).eval (.tmp k) = v := by
  simp [Act.put, Act.eval, h]
theorem getD_of_set {listed : Array Bool} {i j : Nat} (h : (listed.setIfInBounds i true).getD j false = true) (hij : i ≠ j) : listed.getD j false = true := by
  rwa [getD_set_false hij] at h
theorem unlisted {listed : Array Bool} {i j : Nat} (hi : listed.getD i false = false) (h : (listed.setIfInBounds i true).getD j false = false) : listed.getD j false = false := by
  by_cases hij : i = j
  · subst hij; exact hi
  · rwa [getD_set_false hij] at h

section
variable {T : TypeId} {Z : Array Value} {cs : Value → Array Value} {base N m n : Nat} {listed : Array Bool} {a : Act} {w : World}
theorem AInv.read (inv : AInv ops T Z G cs base N m n listed a w) (hK : Kinds md ops T m n N) {i : Nat} {o : Oper} (hi : i ∈ Region.ready md ops listed) (ho : ops[i]? = some o) (him : i < m) (v : Value) :
    AInv ops T Z G cs base N m n (listed.setIfInBounds i true) (a.put o.dst v) w := by
  have hun := getD_both (mem_ready.1 hi).1
  have hns : ∀ k ok x, ops[k]? = some ok → storeT ok = some x → i ≠ k := fun k ok x hk hx he => by
    subst he
    have : ok = o := Option.some.inj (hk.symm.trans ho)
    subst this
    rw [plain_store (hK.read _ _ hk him)] at hx; cases hx
  have key : ∀ j oj d, m ≤ j → ops[j]? = some oj → oj.dst = some d → (a.put o.dst v).eval (.tmp d) = a.eval (.tmp d) := fun j oj d hm hoj hd => eval_put_ne (hK.dst j i oj o d hoj ho (by omega) hd)
  refine ⟨(put_size _ _ _).trans inv.size, fun j oj d hm hj hoj hl hd => ?_, fun j oj d k ok d' hm hj hoj hl hd hm' hk hok hl' hd' hne => ?_, fun k ok d u hk hx hl => ?_, fun k ok d u hk hx hl j oj hj hlj => ?_⟩
  · rw [key j oj d hm hoj hd]
    obtain ⟨B, h1, h2, h3, h4⟩ := inv.made j oj d hm hj hoj (getD_of_set hl (by omega)) hd
    exact ⟨B, h1, h2, h3, fun hh => h4 fun k ok u hk hx => unlisted hun (hh k ok u hk hx)⟩
  · rw [key j oj d hm hoj hd, key k ok d' hm' hok hd']
    exact inv.apart j oj d k ok d' hm hj hoj (getD_of_set hl (by omega)) hd hm' hk hok (getD_of_set hl' (by omega)) hd' hne
  · have hl' := getD_of_set hl (hns k ok _ hk hx)
    obtain ⟨e1, e2⟩ := inv.deps k ok d u hk hx hl' i o ho hun
    rw [eval_put_ne e1, eval_put_ne e2]
    exact inv.stored k ok d u hk hx hl'
  · exact inv.deps k ok d u hk hx (getD_of_set hl (hns k ok _ hk hx)) j oj hj (unlisted hun hlj)

theorem AInv.alloc (inv : AInv ops T Z G cs base N m n listed a w) (hK : Kinds md ops T m n N) {i : Nat} {o : Oper} (hi : i ∈ Region.ready md ops listed) (ho : ops[i]? = some o) (him : m ≤ i) (hin : i < n) (hb : base ≤ w.heap.size) :
    AInv ops T Z G cs base N m n (listed.setIfInBounds i true) (a.put o.dst (.pointer (some ⟨w.heap.size, 0, none⟩))) (w.alloc (.cells Z T)) := by
  have hun := getD_both (mem_ready.1 hi).1
  obtain ⟨hal, di, hdi, hdN⟩ := hK.made i o ho him hin
  have hns : ∀ k ok x, ops[k]? = some ok → storeT ok = some x → i ≠ k := fun k ok x hk hx he => by
    subst he
    have : ok = o := Option.some.inj (hk.symm.trans ho)
    subst this
    rw [storeT_alloc hx] at hal; cases hal
  have key : ∀ j oj d, ops[j]? = some oj → oj.dst = some d → i ≠ j → (a.put o.dst (.pointer (some ⟨w.heap.size, 0, none⟩))).eval (.tmp d) = a.eval (.tmp d) := fun j oj d hoj hd hne => eval_put_ne (hK.dst j i oj o d hoj ho (Ne.symm hne) hd)
  have self : (a.put o.dst (.pointer (some ⟨w.heap.size, 0, none⟩))).eval (.tmp di) = .pointer (some ⟨w.heap.size, 0, none⟩) := by
    rw [hdi]; exact eval_put (by rw [inv.size]; exact hdN)
  have old : ∀ j oj d, m ≤ j → j < n → ops[j]? = some oj → (listed.setIfInBounds i true).getD j false = true → oj.dst = some d → i ≠ j → a.eval (.tmp d) ≠ .pointer (some ⟨w.heap.size, 0, none⟩) := fun j oj d hm hj hoj hl hd hne he => by
    obtain ⟨B, h1, _, h3, _⟩ := inv.made j oj d hm hj hoj (getD_of_set hl hne) hd
    rw [he] at h1
    injection h1 with h1
    injection h1 with h1
    injection h1 with h1 _ _
    omega
  refine ⟨(put_size _ _ _).trans inv.size, fun j oj d hm hj hoj hl hd => ?_, fun j oj d k ok d' hm hj hoj hl hd hm' hk hok hl' hd' hne => ?_, fun k ok d u hk hx hl => ?_, fun k ok d u hk hx hl j oj hj hlj => ?_⟩
  · by_cases hij : i = j
    · subst hij
      have : oj = o := Option.some.inj (hoj.symm.trans ho)
      subst this
      have : d = di := Option.some.inj (hd.symm.trans hdi)
      subst this
      exact ⟨w.heap.size, self, hb, by simp, fun _ => Blk.new w T Z⟩
    · obtain ⟨B, h1, h2, h3, h4⟩ := inv.made j oj d hm hj hoj (getD_of_set hl hij) hd
      exact ⟨B, (key j oj d hoj hd hij).trans h1, h2, by simp; omega, fun hh => (h4 fun k ok u hk hx => unlisted hun (hh k ok u hk hx)).alloc _⟩
  · by_cases hij : i = j
    · subst hij
      have : oj = o := Option.some.inj (hoj.symm.trans ho)
      subst this
      have : d = di := Option.some.inj (hd.symm.trans hdi)
      subst this
      rw [self, key k ok d' hok hd' hne]
      exact (old k ok d' hm' hk hok hl' hd' hne).symm
    · by_cases hik : i = k
      · subst hik
        have : ok = o := Option.some.inj (hok.symm.trans ho)
        subst this
        have : d' = di := Option.some.inj (hd'.symm.trans hdi)
        subst this
        rw [self, key j oj d hoj hd hij]
        exact old j oj d hm hj hoj hl hd hij
      · rw [key j oj d hoj hd hij, key k ok d' hok hd' hik]
        exact inv.apart j oj d k ok d' hm hj hoj (getD_of_set hl hij) hd hm' hk hok (getD_of_set hl' hik) hd' hne
  · have hl' := getD_of_set hl (hns k ok _ hk hx)
    obtain ⟨e1, e2⟩ := inv.deps k ok d u hk hx hl' i o ho hun
    rw [eval_put_ne e1, eval_put_ne e2]
    obtain ⟨B, h1, h2, h3, h4⟩ := inv.stored k ok d u hk hx hl'
    exact ⟨B, h1, h2, h3, h4.alloc _⟩
  · exact inv.deps k ok d u hk hx (getD_of_set hl (hns k ok _ hk hx)) j oj hj (unlisted hun hlj)

theorem ptr_ne {B B' : Nat} (h : Value.pointer (some ⟨B, 0, none⟩) ≠ .pointer (some ⟨B', 0, none⟩)) : B ≠ B' := fun e => h (by rw [e])

/-- what a store needs: its block, still zero -/
theorem AInv.ripe (inv : AInv ops T Z G cs base N m n listed a w) (hK : Kinds md ops T m n N) {i : Nat} {o : Oper} {d v : Tmp} (hi : i ∈ Region.ready md ops listed) (ho : ops[i]? = some o) (him : m ≤ i) (hin : n ≤ i) (hx : storeT o = some (T, d, v)) :
    ∃ B ia oa, m ≤ ia ∧ ia < n ∧ ops[ia]? = some oa ∧ oa.dst = some d ∧ listed.getD ia false = true ∧ a.eval (.tmp d) = .pointer (some ⟨B, 0, none⟩) ∧ base ≤ B ∧ Blk w B T Z := by
  have hun := getD_both (mem_ready.1 hi).1
  obtain ⟨d', v', hx', ⟨ia, oa, h1, h2, h3, h4, h5⟩, _⟩ := hK.put i o ho him hin
  rw [hx] at hx'
  injection hx' with hx'
  injection hx' with _ hx'
  injection hx' with e1 e2
  subst e1 e2
  have hl := edge_listed hi ho h5
  obtain ⟨B, q1, q2, _, q4⟩ := inv.made ia oa d h1 h2 h3 hl h4
  refine ⟨B, ia, oa, h1, h2, h3, h4, hl, q1, q2, q4 fun k ok u hk hxk => ?_⟩
  by_cases hik : i = k
  · subst hik; exact hun
  · exact absurd rfl (hK.slot i k o ok _ _ _ _ _ _ ho hk hik hx hxk)

theorem AInv.store (inv : AInv ops T Z G cs base N m n listed a w) (hK : Kinds md ops T m n N) (hsz : listed.size = ops.size) {i : Nat} {o : Oper} {d v : Tmp} (hi : i ∈ Region.ready md ops listed) (ho : ops[i]? = some o) (him : m ≤ i) (hin : n ≤ i) (hx : storeT o = some (T, d, v))
    {B ia : Nat} {oa : Oper} (ha1 : m ≤ ia) (ha2 : ia < n) (ha3 : ops[ia]? = some oa) (ha4 : oa.dst = some d) (ha5 : listed.getD ia false = true) (hB : a.eval (.tmp d) = .pointer (some ⟨B, 0, none⟩)) (hbB : base ≤ B) (hG : G (a.eval (.tmp v)))
    {w' : World} (hs : w'.heap.size = w.heap.size) (hblk : Blk w' B T (cs (a.eval (.tmp v)))) (hkeep : ∀ B' c, B' ≠ B → Blk w B' T c → Blk w' B' T c) :
    AInv ops T Z G cs base N m n (listed.setIfInBounds i true) a w' := by
  have hun := getD_both (mem_ready.1 hi).1
  have hil : i < listed.size := by rw [hsz]; exact lt_of_some ho
  have hself : (listed.setIfInBounds i true).getD i false = true := by simp [hil]
  obtain ⟨d', v', hx', _, ⟨iv, ov, hv1, hv2, hv3, hv4⟩⟩ := hK.put i o ho him hin
  rw [hx] at hx'
  injection hx' with hx'
  injection hx' with _ hx'
  injection hx' with e1 e2
  subst e1 e2
  have hvl := edge_listed hi ho hv4
  refine ⟨inv.size, fun j oj d' hm hj hoj hl hd => ?_, fun j oj d k ok d' hm hj hoj hl hd hm' hk hok hl' hd' hne => ?_, fun k ok d' u hk hxk hl => ?_, fun k ok d' u hk hxk hl j oj hj hlj => ?_⟩
  · obtain ⟨B', h1, h2, h3, h4⟩ := inv.made j oj d' hm hj hoj (getD_of_set hl (by omega)) hd
    refine ⟨B', h1, h2, by omega, fun hh => ?_⟩
    by_cases hja : j = ia
    · subst hja
      have : oj = oa := Option.some.inj (hoj.symm.trans ha3)
      subst this
      have : d' = d := Option.some.inj (hd.symm.trans ha4)
      subst this
      rw [hh i o v ho hx] at hself
      cases hself
    · have := inv.apart j oj d' ia oa d hm hj hoj (getD_of_set hl (by omega)) hd ha1 ha2 ha3 ha5 ha4 hja
      rw [h1, hB] at this
      exact hkeep B' _ (ptr_ne this) (h4 fun k ok u hk hxk => unlisted hun (hh k ok u hk hxk))
  · exact inv.apart j oj d k ok d' hm hj hoj (getD_of_set hl (by omega)) hd hm' hk hok (getD_of_set hl' (by omega)) hd' hne
  · by_cases hik : i = k
    · subst hik
      have : ok = o := Option.some.inj (hk.symm.trans ho)
      subst this
      rw [hx] at hxk
      injection hxk with hxk
      injection hxk with _ hxk
      injection hxk with e1 e2
      subst e1 e2
      exact ⟨B, hB, hbB, hG, hblk⟩
    · have hl' := getD_of_set hl hik
      obtain ⟨B', h1, h2, h3, h4⟩ := inv.stored k ok d' u hk hxk hl'
      have hdd := hK.slot k i ok o _ _ _ _ _ _ hk ho (Ne.symm hik) hxk hx
      have hkm : m ≤ k ∧ n ≤ k := by
        refine ⟨?_, ?_⟩
        · rcases Nat.lt_or_ge k m with h | h
          · rw [plain_store (hK.read k ok hk h)] at hxk; cases hxk
          · exact h
        · rcases Nat.lt_or_ge k n with h | h
          · rcases Nat.lt_or_ge k m with h' | h'
            · rw [plain_store (hK.read k ok hk h')] at hxk; cases hxk
            · have := (hK.made k ok hk h' h).1
              rw [storeT_alloc hxk] at this; cases this
          · exact h
      obtain ⟨d2, v2, hx2, ⟨ka, oka, g1, g2, g3, g4, _⟩, _⟩ := hK.put k ok hk hkm.1 hkm.2
      rw [hxk] at hx2
      injection hx2 with hx2
      injection hx2 with _ hx2
      injection hx2 with e1 e2
      subst e1 e2
      have hkl : listed.getD ka false = true := by
        cases hc : listed.getD ka false with
        | true => rfl
        | false => exact absurd g4 (inv.deps k ok d' u hk hxk hl' ka oka g3 hc).1
      have hne : ka ≠ ia := fun e => by
        subst e
        have : oka = oa := Option.some.inj (g3.symm.trans ha3)
        subst this
        exact hdd (Option.some.inj (g4.symm.trans ha4))
      have := inv.apart ka oka d' ia oa d g1 g2 g3 hkl g4 ha1 ha2 ha3 ha5 ha4 hne
      rw [h1, hB] at this
      exact ⟨B', h1, h2, h3, hkeep B' _ (ptr_ne this) h4⟩
  · by_cases hik : i = k
    · subst hik
      have : ok = o := Option.some.inj (hk.symm.trans ho)
      subst this
      rw [hx] at hxk
      injection hxk with hxk
      injection hxk with _ hxk
      injection hxk with e1 e2
      subst e1 e2
      have hlj' := unlisted hun hlj
      refine ⟨fun hd => ?_, fun hd => ?_⟩
      · by_cases hja : j = ia
        · subst hja; rw [ha5] at hlj'; cases hlj'
        · exact hK.dst ia j oa oj d ha3 hj (Ne.symm hja) ha4 hd
      · by_cases hja : j = iv
        · subst hja; rw [hvl] at hlj'; cases hlj'
        · exact hK.dst iv j ov oj v hv2 hj (Ne.symm hja) hv3 hd
    · exact inv.deps k ok d' u hk hxk (getD_of_set hl hik) j oj hj (unlisted hun hlj)
end

/-- an operation that only reads leaves the very world -/
theorem wpOp_of_plain {i : Nat} {o : Oper} {a : Act} {K : Act → Prop} {K' : Act → World → Prop} {Q' : Exit → Act → World → Prop} {w : World} (ho : ops[i]? = some o) (hp : plainRead o = true) (hC : C w) (h : ∀ v, K (a.put o.dst v) → K' (a.put o.dst v) w) (hh : qOp P ops C i K a) : wpOp P ops Q' i K' a w := by
  unfold qOp at hh
  unfold wpOp
  simp only [ho] at hh ⊢
  split
  · rename_i hw
    simp only [hw, if_true] at hh
    refine .inl ?_
    obtain ⟨v, h1, h2⟩ := hh
    have h3 := h1 w hC
    have h4 := noEnter (P := P) hp a.eval w
    unfold Oper.quietAt at h3
    unfold Oper.wp
    generalize (execOp a.eval o).run P w = r at *
    cases r with
    | ok n w' =>
      cases n <;> simp only [Oper.quietUpon] at h3 <;> simp only [Oper.upon]
      case value u =>
        obtain ⟨e1, e2⟩ := h3
        rw [e1, e2]
        exact h _ h2
      case skip =>
        obtain ⟨e1, e2⟩ := h3
        rw [e1, ← e2]
        exact h _ h2
      case enter f args =>
        exact absurd rfl (h4 w' f args)
    | halt x w' => simp only [Oper.quietUpon] at h3
  · rename_i hw; simp only [hw] at hh; exact h _ hh

/-- the making of a zero block of type T -/
def AllocRun (P : Program) (T : TypeId) (Z : Array Value) : Prop := ∀ w : World, (Instr.alloc T true (.tuple #[])).run P w = .ok (.pointer (some ⟨w.heap.size, 0, none⟩)) (w.alloc (.cells Z T))
/-- a store of a good value into a zero block of type T -/
def StoreRun (P : Program) (T : TypeId) (Z : Array Value) (G : Value → Prop) (cs : Value → Array Value) : Prop :=
  ∀ (w : World) (B : Nat) (u : Value), G u → Blk w B T Z → ∃ w', (Instr.storeAt T (.pointer (some ⟨B, 0, none⟩)) u).run P w = .ok () w' ∧ w'.heap.size = w.heap.size ∧ (∀ base, base ≤ B → Below base w w') ∧ Blk w' B T (cs u) ∧ ∀ B' c, B' ≠ B → Blk w B' T c → Blk w' B' T c

theorem wpAny_of_M {T : TypeId} {Z : Array Value} {cs : Value → Array Value} {N m n : Nat} {W : World} {Lq : Act → Prop} {Q' : Exit → Act → World → Prop} (hK : Kinds md ops T m n N) (hmn : m ≤ n)
    (hrun : AllocRun P T Z) (hst : StoreRun P T Z G cs)
    (hQ : ∀ listed a w', Below W.heap.size W w' → AInv ops T Z G cs W.heap.size N m n listed a w' → (∀ j, j < ops.size → listed.getD j false = true) → Lq a → Q' .normal a w') :
    ∀ (f : Nat) (listed : Array Bool) (a : Act) (w : World), Below W.heap.size W w → AInv ops T Z G cs W.heap.size N m n listed a w → listed.size = ops.size → wpAnyM P md ops (fun w' => ∃ e : ExtW W, w' = e.val) G (Done md ops Lq) f listed a → wpAny P md ops Q' f listed a w
  | 0, listed, a, w, hw, inv, _, h => ⟨h.1, hQ listed a w hw inv h.2.1 h.2.2⟩
  | f + 1, listed, a, w, hw, inv, hsz, h => by
    refine ⟨fun h0 => absurd h0 h.1, fun i hi => ?_⟩
    obtain ⟨_, o, ho, _⟩ := mem_ready.1 hi
    have h1 := h.2 i hi
    have hsz' : (listed.setIfInBounds i true).size = ops.size := by simpa using hsz
    by_cases him : i < m
    · have hp := hK.read i o ho him
      refine wpOp_of_plain (C := fun w' => ∃ e : ExtW W, w' = e.val) ho hp ⟨⟨w, hw⟩, rfl⟩ (fun v hv => ?_) ((mOp_quiet ho (plain_alloc hp) (plain_store hp)).1 h1)
      exact wpAny_of_M hK hmn hrun hst hQ f _ _ w hw (inv.read hK hi ho him v) hsz' hv
    · have him' := Nat.not_lt.1 him
      by_cases hin : i < n
      · obtain ⟨ha, d, hd, hdN⟩ := hK.made i o ho him' hin
        have h2 := (mOp_alloc ho ha).1 h1 w.heap.size
        have h3 := wpAny_of_M hK hmn hrun hst hQ f _ _ (w.alloc (.cells Z T)) (Below.alloc hw hw.size _) (inv.alloc hK hi ho him' hin hw.size) hsz' h2
        obtain ⟨hop, hg⟩ := allocT_spec ha
        unfold wpOp
        simp only [ho]
        rw [if_pos (by simp [Region.wanted, hg])]
        refine .inl ?_
        unfold Oper.wp
        have hr : (execOp a.eval o).run P w = .ok (.value (.pointer (some ⟨w.heap.size, 0, none⟩))) (w.alloc (.cells Z T)) := by
          unfold execOp
          rw [hop]
          show ((do pure (Next.value (← Instr.alloc T true (.tuple #[])))) : Sem Next).run P w = _
          rw [Sem.run_bind, hrun w]
          rfl
        rw [hr]
        exact h3
      · have hin' := Nat.not_lt.1 hin
        obtain ⟨d, v, hx, _⟩ := hK.put i o ho him' hin'
        obtain ⟨hG, h2⟩ := (mOp_store ho hx).1 h1
        obtain ⟨B, ia, oa, ha1, ha2, ha3, ha4, ha5, hB, hbB, hblk⟩ := inv.ripe hK hi ho him' hin' hx
        obtain ⟨w', hr, hs, hbel, hblk', hkeep⟩ := hst w B _ hG hblk
        have h3 := wpAny_of_M hK hmn hrun hst hQ f _ _ w' (hw.trans (hbel _ hbB)) (inv.store hK hsz hi ho him' hin' hx ha1 ha2 ha3 ha4 ha5 hB hbB hG hs hblk' hkeep) hsz' h2
        obtain ⟨hop, hg, hd⟩ := storeT_spec hx
        unfold wpOp
        simp only [ho]
        rw [if_pos (by simp [Region.wanted, hg])]
        refine .inl ?_
        unfold Oper.wp
        have hr' : (execOp a.eval o).run P w = .ok .skip w' := by
          unfold execOp
          rw [hop]
          show ((do Instr.storeAt T (a.eval (.tmp d)) (a.eval (.tmp v)); pure Next.skip) : Sem Next).run P w = _
          rw [Sem.run_bind, hB, hr]
          rfl
        rw [hr']
        show wpAny P md ops Q' f _ (a.put o.dst undef) w'
        rw [hd]
        exact h3

/-- what the stores have left -/
def storesFact (T : TypeId) (cs : Value → Array Value) (base : Nat) (w : World) : List Oper → Act → Prop
  | [], _ => True
  | o :: rest, a => (match storeT o with | some x => ∃ B, a.eval (.tmp x.2.1) = .pointer (some ⟨B, 0, none⟩) ∧ base ≤ B ∧ Blk w B T (cs (a.eval (.tmp x.2.2))) | none => False) ∧ storesFact T cs base w rest a
theorem storesFact_of {T : TypeId} {Z : Array Value} {cs : Value → Array Value} {base N m n : Nat} {listed : Array Bool} {a : Act} {w : World} (inv : AInv ops T Z G cs base N m n listed a w) (hK : Kinds md ops T m n N) (hmn : m ≤ n) (hall : ∀ j, j < ops.size → listed.getD j false = true) :
    ∀ (l : List Oper) (k : Nat), n ≤ k → (∀ j, j < l.length → l[j]? = ops[k + j]?) → storesFact T cs base w l a
  | [], _, _, _ => True.intro
  | o :: l, k, hnk, hl => by
    have h0 : ops[k]? = some o := by simpa using (hl 0 (by simp)).symm
    obtain ⟨d, v, hx, _⟩ := hK.put k o h0 (by omega) hnk
    obtain ⟨B, h1, h2, _, h4⟩ := inv.stored k o d v h0 hx (hall k (lt_of_some h0))
    refine ⟨by rw [hx]; exact ⟨B, h1, h2, h4⟩, storesFact_of inv hK hmn hall l (k + 1) (by omega) (fun j hj => by have := hl (j + 1) (by simp; omega); simpa [Nat.add_assoc, Nat.add_comm 1 j] using this)⟩

def putsB (md : Region.Mode) (ops : Array Oper) (T : TypeId) (m n N : Nat) : Bool :=
  Region.noSelect ops && decide (m ≤ n) && decide (n ≤ ops.size) && quietB md ops (fun listed => allocB md ops (ops.size - n) n (n - m) m listed) m 0 (Array.replicate ops.size false) && kindsB md ops T m n N

theorem wp_region_puts {id : Nat} {Q : Exit → Act → World → Prop} {a : Act} {w : World} {l : List Oper} (m n N : Nat) (T : TypeId) (Z : Array Value) (G : Value → Prop) (cs : Value → Array Value) (hm : P.follows .mixedOrders = true) (hB : putsB .any l.toArray T m n N = true) (hN : a.tmps.size = N)
    (hrun : AllocRun P T Z) (hst : StoreRun P T Z G cs)
    (h : wpQuiet P l.toArray (fun w' => ∃ e : ExtW w, w' = e.val) (fun a' => allocQ ((l.drop m).take (n - m)) a' fun a'' => storesQ G (l.drop n) a'' ∧ ∀ w', Below w.heap.size w w' → storesFact T cs w.heap.size w' (l.drop n) a'' → Q .normal a'' w') (l.take m) a) : (Code.region id l.toArray true).wp P Q a w := by
  simp only [putsB, Bool.and_eq_true, decide_eq_true_eq] at hB
  obtain ⟨⟨⟨⟨hsel, hmn⟩, hn⟩, hq⟩, hk⟩ := hB
  have hK := kinds_of hk
  have hn' : n ≤ l.length := by simpa using hn
  have hdl : (l.drop n).length = l.toArray.size - n := by simp
  have hml : (l.take m).length = m := by simp; omega
  have hnl : ((l.drop m).take (n - m)).length = n - m := by simp; omega
  refine wp_region_any hm ?_
  have hla : ∀ j, j < ((l.drop m).take (n - m)).length → ((l.drop m).take (n - m))[j]? = l.toArray[m + j]? := fun j hj => by
    have hj' : j < n - m := by rw [hnl] at hj; exact hj
    rw [List.getElem?_take, if_pos hj', List.getElem?_drop]; simp
  have hlq : ∀ j, j < (l.take m).length → (l.take m)[j]? = l.toArray[0 + j]? := fun j hj => by
    have hj' : j < m := by rw [hml] at hj; exact hj
    rw [List.getElem?_take, if_pos hj', Nat.zero_add]; simp
  have H := wpAnyM_quiets (P := P) (md := .any) (G := G) (C := fun w' => ∃ e : ExtW w, w' = e.val) (m := m) (n := n) (Lq := fun a'' => ∀ w', Below w.heap.size w w' → storesFact T cs w.heap.size w' (l.drop n) a'' → Q .normal a'' w') hsel ((l.drop m).take (n - m)) (l.drop n) (by rw [hnl]; omega)
    (fun j hj => by simp [List.getElem?_drop]) (by rw [hdl]; omega)
    (fun j oj hj hoj => by
      by_cases hjn : j < n
      · exact .inl ⟨T, (hK.made j oj hoj hj hjn).1⟩
      · obtain ⟨d, v, hx, _⟩ := hK.put j oj hoj hj (Nat.not_lt.1 hjn)
        exact .inr ⟨_, hx⟩)
    (fun o ho => by
      obtain ⟨j, hj, rfl⟩ := List.mem_iff_getElem.1 ho
      have h1 := hla j hj
      rw [List.getElem?_eq_getElem hj] at h1
      exact ⟨T, (hK.made (m + j) _ h1.symm (by omega) (by rw [hnl] at hj; omega)).1⟩)
    hla (l.take m) 0 (Array.replicate l.toArray.size false) a
    (fun o ho => by
      obtain ⟨j, hj, rfl⟩ := List.mem_iff_getElem.1 ho
      have h1 := hlq j hj
      rw [List.getElem?_eq_getElem hj] at h1
      exact hK.read (0 + j) _ h1.symm (by rw [hml] at hj; omega))
    hlq (by rw [hml]; omega) (by simp) (fun j hj => absurd hj (Nat.not_lt_zero _)) (by rw [hnl, hml, hdl]; exact hq) h
  have hnone : ∀ i, (Array.replicate l.toArray.size false).getD i false = true → False := fun i hl => by rw [getD_replicate_false] at hl; cases hl
  have H2 := wpAny_of_M (P := P) (md := .any) (W := w) (T := T) (Z := Z) (cs := cs) (N := N) (m := m) (n := n) (Q' := Q) hK hmn hrun hst
    (fun listed a'' w' hw' ai hall hL => hL w' hw' (storesFact_of ai hK hmn hall (l.drop n) n (Nat.le_refl _) (fun j hj => by simp [List.getElem?_drop])))
    _ _ _ { w with drawn := w.drawn + 1 } (bdrew w)
    ⟨hN, fun i o d _ _ _ hl => (hnone i hl).elim, fun i o d j o' d' _ _ _ hl => (hnone i hl).elim, fun k o d v _ _ hl => (hnone k hl).elim, fun k o d v _ _ hl => (hnone k hl).elim⟩ (by simp) H
  rw [hml, hnl, hdl, show m + (n - m + (l.toArray.size - n)) = l.toArray.size by omega] at H2
  exact H2
end
end Go.Ks
