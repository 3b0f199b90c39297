/- Opening the arguments of a law and closing its row: general lemmas over any program. -/
import Derived.Test.YthjllledhcfnhaaGreatDoorBase
import Derived.ProofKit
import Derived.OpenShut
import Derived.Deep.Slices
import Derived.Deep.Fields
import Derived.ChangeSame
import Derived.Lib.SmallJoins
namespace Go.Ks
open Go.ChangeShapes Go.WideShapes Go.Deep Go.RowKit Go.WideElems Go.Joins
section
variable {H : Type} {enc : TypeId × Value → H} {P : Program}

theorem trodAll_stays (hl : laidOutB P = true) {W W' : World} (hb : Below W.heap.size W W') : ∀ (ts : List TypeId) (vs : List Value) (ds : List (DataW H)) (ps : List MemPlace),
    (∀ t ∈ ts, P.readableRec t = true ∧ t < P.types.size) → DataW.TrodAll enc P W 0 (fun _ => true) true ts vs ds ps → (∀ x ∈ ps, x.block < W.heap.size) →
    ∀ sp : Nat → Bool, (∀ p ∈ ps, sp p.block = true) → DataW.TrodAll enc P W' 0 sp true ts vs ds ps
  | [], [], [], _, _, h, _, _, _ => h
  | t :: ts, v :: vs, d :: ds, ps, ht, h, hlt, sp, hsp => by
    obtain ⟨p, q, h1, h2, rfl⟩ := h
    refine ⟨p, q, ?_, ?_, rfl⟩
    · exact Trod_stays hl (ht t (by simp)).1 (ht t (by simp)).2 h1 (fun x hx => hb.same (hlt x (by simp [hx]))) (fun x hx => hsp x (by simp [hx]))
    · exact trodAll_stays hl hb ts vs ds q (fun t' ht' => ht t' (by simp [ht'])) h2 (fun x hx => hlt x (by simp [hx])) sp (fun x hx => hsp x (by simp [hx]))
  | [], _ :: _, _, _, _, h, _, _, _ => h.elim
  | [], [], _ :: _, _, _, h, _, _, _ => h.elim
  | _ :: _, [], _, _, _, h, _, _, _ => h.elim
  | _ :: _, _ :: _, [], _, _, h, _, _, _ => h.elim

/-- a law that names no variable: it answered true and below the old heap's size nothing has turned -/
theorem law_post {f : Func} {s : ChangeSpec} {tb : TypeId} {W W' : World} {args : Array Value} {ds gs : List (DataW H)} {before : List MemPlace} (hl : laidOutB P = true)
    (hts : ∀ t ∈ f.params.toList, P.readableRec t = true ∧ t < P.types.size) (hr : f.resultTypes = #[tb]) (htb : P.underlying tb = some .bool) (hv : s.vars = [])
    (hW : DataW.Whole enc P f.params.toList s.vars false W args.toList ds gs before)
    (hres : (s.fn H (ds ++ gs)).results = [.lit (.bool true)]) (harg : (s.fn H (ds ++ gs)).args = ds) (hvar : (s.fn H (ds ++ gs)).vars = [])
    (hb : Below W.heap.size W W') : s.post enc P f false true false false W args (.bool true) W' := by
  have hW' := hW
  obtain ⟨p, q, hA, hV, hbef, _, _⟩ := hW
  have hV0 := hV
  rw [hv] at hV0
  obtain ⟨hg0, hq0⟩ := trodVars_none hV0
  have hbp : before = p := by rw [hbef, hq0, List.append_nil]
  have hlb : ∀ x ∈ before, x.block < W.heap.size := fun x hx => hW'.lt x hx
  have hlt : ∀ x ∈ p, x.block < W.heap.size := fun x hx => hlb x (by rw [hbp]; exact hx)
  have e1 : ∀ (b : Nat) (sp : Nat → Bool) (hd : Bool), DataW.TrodAll enc P W' b sp hd f.resultTypes.toList ((Value.bool true).resultList f.resultTypes.size) (s.fn H (ds ++ gs)).results [] := fun b sp hd => by
    rw [hr, hres]
    exact trodAll_cons_mk (shut_bool htb _) trodAll_mk0
  have e2 : ∀ sp : Nat → Bool, (∀ x ∈ before, sp x.block = true) → DataW.TrodAll enc P W' 0 sp true f.params.toList args.toList (s.fn H (ds ++ gs)).args p := fun sp hsp => by
    rw [harg]
    exact trodAll_stays hl hb _ _ _ _ hts hA hlt sp (fun x hx => hsp x (by rw [hbp]; exact hx))
  have e3 : ∀ sp : Nat → Bool, (∀ x ∈ before, sp x.block = true) → DataW.TrodVars enc P W' sp s.vars (s.fn H (ds ++ gs)).vars [] := fun sp _ => by
    rw [hv, hvar]; exact rfl
  have hold : ∀ x ∈ before, (fun b => decide (b < W.heap.size)) x.block = true := fun x hx => by simpa using hW'.lt x hx
  refine ⟨ds, gs, before, [], p, [], hW', e1 _ _ _, e2 _ hold, e3 _ hold, World.keptBut_mono (fun x hx => ⟨hx, ?_⟩) (hb.frame (· ∈ before)), fun _ => ?_⟩
  · rw [hbp] at hx; exact Or.inr (by simpa using hx)
  · obtain ⟨_, _, _, _, _, hz, hn⟩ := hW'
    refine ⟨ok_one hr rfl (okWide_bool_mk htb _), _, _, ([] ++ p) ++ [], ⟨[] ++ p, [], trodAll_append (e2 _ (fun _ _ => rfl)) (e1 _ _ _), e3 _ (fun _ _ => rfl), rfl, ?_, ?_⟩, ?_⟩
    · intro b off hp
      have hin : MemPlace.cell b off ∈ before := by rw [hbp]; simpa using hp
      rw [hb.frozen (p := ⟨b, off, none⟩) (hlb _ hin)]
      exact hz b off hin
    · intro ha; cases ha
    · intro x hx _
      rw [hbp]
      simpa using hx
end
section
variable {H : Type} {enc : TypeId × Value → H} {P : Program} {w : World} {base : Nat} {spare : Nat → Bool} {held : Bool}
theorem open_slice_fields {t e : TypeId} {fs : Array Field} {fuel : Nat} {cs : List Value} {x : DataW H × List MemPlace} (ht : P.underlying t = some (.slice e)) (he : P.underlying e = some (.struct fs))
    (hone : oneCellFields P fs = true) (hC : P.cellsOf e = fs.size) (h : DataW.trod enc P w base spare held fuel t cs = some x) :
    (cs = [.slice none 0 0] ∧ x = (.nil, [])) ∨
    ∃ (a : Addr) (len cap m : Nat) (D : Nat → DataW H) (Pl : Nat → List MemPlace), cs = [.slice (some a) len cap] ∧ base ≤ a.block ∧ len ≤ cap ∧ cap ≤ maxLen ∧ m = (if spare a.block then cap else len) ∧
      x = (.slice ((List.range len).map D) ((List.range (m - len)).map fun j => D (len + j)), MemPlace.row a (m * fs.size) ++ (List.range m).flatMap Pl) ∧
      ∀ i, i < m → ∃ (ys : List (DataW H × List MemPlace)) (n : Nat), D i = .agg (ys.map (·.1)) ∧ Pl i = ys.flatMap (·.2) ∧ ys.length = fs.size ∧
        ∀ (j : Nat) (f : Field), fs[j]? = some f → ∃ (v : Value) (y : DataW H × List MemPlace), w.cell? (a.add (i * fs.size + j)) = some v ∧ ys[j]? = some y ∧ DataW.trod enc P w base spare held n f.type [v] = some y := by
  rcases open_slice ht h with h0 | ⟨a, len, cap, m, n, D, Pl, hcs, hb, hl, hm, hmm, hx, hi⟩
  · exact .inl h0
  · refine .inr ⟨a, len, cap, m, D, Pl, hcs, hb, hl, hm, hmm, by rw [hC] at hx; exact hx, fun i him => ?_⟩
    obtain ⟨cs', hc, ht'⟩ := hi i him
    rw [hC] at hc
    obtain ⟨ys, n', hn', hy, hlen, hyl, hf⟩ := DataW.trod_struct he ht'
    obtain ⟨_, hcl, hat⟩ := World.cells?_some hc
    simp only [Prod.mk.injEq] at hy
    refine ⟨ys, n', hy.1, hy.2, hyl, fun j f hj => ?_⟩
    obtain ⟨ho, hk⟩ := hone_of hone j f hj
    have hjl : j < fs.size := (Array.getElem?_eq_some_iff.1 hj).1
    have hcell := hat j hjl
    have hv : cs'[j]? = some (cs'[j]'(by omega)) := List.getElem?_eq_getElem (by omega)
    have h1 := hf j f hj
    rw [ho, hk] at h1
    have hone' : (cs'.drop j).take 1 = [cs'[j]'(by omega)] := by
      rw [List.drop_eq_getElem_cons (by omega)]
      rfl
    rw [hone'] at h1
    have hys : ys[j]? = some (ys[j]'(by omega)) := List.getElem?_eq_getElem (by omega)
    refine ⟨_, _, ?_, hys, h1.trans hys⟩
    rw [← Go.Deep.add_add, hcell, hv]

/-- an argument that is a slice of structs, as a slice that reads as rows of cells: each row by 'hrow' -/
theorem open_rows0 {α : Type} [Inhabited α] {t e : TypeId} {fs : Array Field} {v : Value} {d : DataW H} {p : List MemPlace} (F : (Nat → α) → Nat → Nat → Value) (good : α → Prop) (ht : P.underlying t = some (.slice e)) (he : P.underlying e = some (.struct fs))
    (hone : oneCellFields P fs = true) (hC : P.cellsOf e = fs.size) (hpos : 0 < fs.size)
    (hrow : ∀ c : Nat → Value, (∀ (j : Nat) (f : Field), fs[j]? = some f → ∃ (n : Nat) (y : DataW H × List MemPlace), DataW.trod enc P w base (fun _ => true) held n f.type [c j] = some y) → ∃ x : α, good x ∧ ∀ l k, l k = x → ∀ j, j < fs.size → F l j k = c j)
    (hv : ∃ a l c, v = .slice a l c) (h : DataW.Trod enc P w base (fun _ => true) held t v d p) (hlt : ∀ x ∈ p, x.block < w.heap.size) :
    ∃ (A : Option Addr) (n c : Nat) (l : Nat → α), v = .slice A n c ∧ n ≤ c ∧ c ≤ maxLen ∧ Sl w A (n * fs.size) (rc fs.size (F l)) ∧ ∀ k, k < n → good (l k) := by
  obtain ⟨a0, len0, cap0, rfl⟩ := hv
  obtain ⟨fuel, hf⟩ := h
  rcases open_slice_fields ht he hone hC hf with ⟨hcs, _⟩ | ⟨a, len, cap, m, D, Pl, hcs, _, hl, hm, hmm, hx, hi⟩
  · simp only [Value.cells, List.cons.injEq, Value.slice.injEq, and_true] at hcs
    obtain ⟨rfl, rfl, rfl⟩ := hcs
    exact ⟨none, 0, 0, fun _ => default, rfl, Nat.le_refl _, Nat.zero_le _, fun h => absurd h (by omega), fun k hk => absurd hk (by omega)⟩
  · simp only [Value.cells, List.cons.injEq, Value.slice.injEq, and_true] at hcs
    obtain ⟨rfl, rfl, rfl⟩ := hcs
    rw [if_pos rfl] at hmm
    have hrows : ∀ i, ∃ x : α, i < m → good x ∧ ∀ l k, l k = x → ∀ j, j < fs.size → w.cell? (a.add (i * fs.size + j)) = some (F l j k) := fun i => by
      by_cases him : i < m
      · obtain ⟨ys, n, _, _, hyl, hff⟩ := hi i him
        have hget : ∀ j, j < fs.size → ∃ (v : Value) (n : Nat) (y : DataW H × List MemPlace), w.cell? (a.add (i * fs.size + j)) = some v ∧ ∀ f, fs[j]? = some f → DataW.trod enc P w base (fun _ => true) held n f.type [v] = some y := fun j hj => by
          obtain ⟨v, y, h1, _, h3⟩ := hff j fs[j] (Array.getElem?_eq_getElem hj)
          exact ⟨v, n, y, h1, fun f hf' => by rw [Array.getElem?_eq_getElem hj] at hf'; cases hf'; exact h3⟩
        have hc : ∃ c : Nat → Value, ∀ j, j < fs.size → w.cell? (a.add (i * fs.size + j)) = some (c j) ∧ ∃ (n : Nat) (y : DataW H × List MemPlace), ∀ f, fs[j]? = some f → DataW.trod enc P w base (fun _ => true) held n f.type [c j] = some y :=
          ⟨fun j => if hj : j < fs.size then Classical.choose (hget j hj) else default, fun j hj => by
            simp only [dif_pos hj]
            obtain ⟨n, y, h1, h2⟩ := Classical.choose_spec (hget j hj)
            exact ⟨h1, n, y, h2⟩⟩
        obtain ⟨c, hc⟩ := hc
        obtain ⟨x, hg, hx'⟩ := hrow c (fun j f hj => by
          obtain ⟨n, y, h2⟩ := (hc j (Array.getElem?_eq_some_iff.1 hj).1).2
          exact ⟨n, y, h2 f hj⟩)
        exact ⟨x, fun _ => ⟨hg, fun l k hlk j hj => by rw [(hc j hj).1, hx' l k hlk j hj]⟩⟩
      · exact ⟨default, fun h => absurd h him⟩
    have hl' : ∃ l : Nat → α, ∀ i, i < m → good (l i) ∧ ∀ j, j < fs.size → w.cell? (a.add (i * fs.size + j)) = some (F l j i) :=
      ⟨fun i => Classical.choose (hrows i), fun i him => ⟨(Classical.choose_spec (hrows i) him).1, fun j hj => (Classical.choose_spec (hrows i) him).2 (fun i => Classical.choose (hrows i)) i rfl j hj⟩⟩
    obtain ⟨l, hl2⟩ := hl'
    refine ⟨some a, len0, cap0, l, rfl, hl, hm, fun hpos' => ?_, fun k hk => (hl2 k (by omega)).1⟩
    have hm0 : 0 < m := by
      rcases Nat.eq_zero_or_pos len0 with h0 | h0
      · subst h0; simp at hpos'
      · omega
    have hc0 := (hl2 0 hm0).2 0 hpos
    have hadd0 : a.add (0 * fs.size + 0) = a := by unfold Addr.add; simp
    rw [hadd0] at hc0
    have hspot : a.spot = none := by
      cases hs : a.spot with
      | none => rfl
      | some s =>
        unfold World.cell? at hc0
        split at hc0 <;> simp [hs] at hc0
    obtain ⟨b, off, sp⟩ := a
    cases hspot
    refine ⟨b, off, rfl, ?_, fun j hj => ?_⟩
    · have := hlt (.cell b off) (by
        simp only [Prod.mk.injEq] at hx
        rw [hx.2]
        refine List.mem_append.2 (.inl ?_)
        have hp : 0 < m * fs.size := Nat.mul_pos hm0 hpos
        simp only [MemPlace.row, List.mem_map, List.mem_range]
        exact ⟨0, hp, by simp⟩)
      exact this
    · have hq : j / fs.size < len0 := (Nat.div_lt_iff_lt_mul hpos).2 hj
      have h1 := (hl2 (j / fs.size) (by omega)).2 (j % fs.size) (Nat.mod_lt _ hpos)
      have e1 : j / fs.size * fs.size + j % fs.size = j := by rw [Nat.mul_comm]; exact Nat.div_add_mod j fs.size
      rw [e1] at h1
      have e2 : (⟨b, off, none⟩ : Addr).add j = ⟨b, off + j, none⟩ := by
        unfold Addr.add
        by_cases h0 : j = 0
        · subst h0; simp
        · rw [if_neg h0]
      rw [e2] at h1
      exact h1
theorem open_rows {α : Type} [Inhabited α] {r : Reach} {b0 : Nat} {t e : TypeId} {fs : Array Field} {v : Value} {d : DataW H} {p : List MemPlace} (F : (Nat → α) → Nat → Nat → Value) (good : α → Prop) (ht : P.underlying t = some (.slice e)) (he : P.underlying e = some (.struct fs))
    (hone : oneCellFields P fs = true) (hC : P.cellsOf e = fs.size) (hpos : 0 < fs.size)
    (hrow : ∀ c : Nat → Value, (∀ (j : Nat) (f : Field), fs[j]? = some f → ∃ (n : Nat) (y : DataW H × List MemPlace), DataW.trod enc P w base (fun _ => true) held n f.type [c j] = some y) → ∃ x : α, good x ∧ ∀ l k, l k = x → ∀ j, j < fs.size → F l j k = c j)
    (hv : Value.okWide P w r b0 t v) (h : DataW.Trod enc P w base (fun _ => true) held t v d p) (hlt : ∀ x ∈ p, x.block < w.heap.size) :
    ∃ (A : Option Addr) (n c : Nat) (l : Nat → α), v = .slice A n c ∧ n ≤ c ∧ c ≤ maxLen ∧ Sl w A (n * fs.size) (rc fs.size (F l)) ∧ ∀ k, k < n → good (l k) := open_rows0 F good ht he hone hC hpos hrow (okWide_slice ht hv) h hlt
/-- an argument that is a slice of numbers -/
theorem open_nums {r : Reach} {b0 : Nat} {t e : TypeId} {k : IntKind} {v : Value} {d : DataW H} {p : List MemPlace} (ht : P.underlying t = some (.slice e)) (he : P.underlying e = some (.int k)) (hC : P.cellsOf e = 1)
    (hv : Value.okWide P w r b0 t v) (h : DataW.Trod enc P w base (fun _ => true) held t v d p) (hlt : ∀ x ∈ p, x.block < w.heap.size) :
    ∃ (A : Option Addr) (n c : Nat) (l : Nat → Int), v = .slice A n c ∧ n ≤ c ∧ c ≤ maxLen ∧ Sl w A (n * 1) (fun j => .int k (l j)) ∧ ∀ j, j < n → (Lit.int k (l j)).wf = true := by
  obtain ⟨a0, len0, cap0, rfl⟩ := okWide_slice ht hv
  obtain ⟨fuel, hf⟩ := h
  rcases open_ints ht he hC hf with ⟨hcs, _⟩ | ⟨a, len, cap, zs, hcs, _, hl, hm, hmm, hx, hi, hw⟩
  · simp only [Value.cells, List.cons.injEq, Value.slice.injEq, and_true] at hcs
    obtain ⟨rfl, rfl, rfl⟩ := hcs
    exact ⟨none, 0, 0, fun _ => 0, rfl, Nat.le_refl _, Nat.zero_le _, fun h => absurd h (by omega), fun k hk => absurd hk (by omega)⟩
  · simp only [Value.cells, List.cons.injEq, Value.slice.injEq, and_true] at hcs
    obtain ⟨rfl, rfl, rfl⟩ := hcs
    rw [if_pos rfl] at hmm
    refine ⟨some a, len0, cap0, fun j => zs.getD j 0, rfl, hl, hm, fun hpos => ?_, fun j hj => ?_⟩
    · have hz0 : 0 < zs.length := by omega
      have hc0 := hi 0 hz0
      have hadd0 : a.add 0 = a := by unfold Addr.add; simp
      rw [hadd0] at hc0
      have hspot : a.spot = none := by
        cases hs : a.spot with
        | none => rfl
        | some s =>
          unfold World.cell? at hc0
          split at hc0 <;> simp [hs] at hc0
      obtain ⟨b, off, sp⟩ := a
      cases hspot
      refine ⟨b, off, rfl, ?_, fun j hj => ?_⟩
      · have := hlt (.cell b off) (by
          simp only [Prod.mk.injEq] at hx
          rw [hx.2]
          simp only [MemPlace.row, List.mem_map, List.mem_range]
          exact ⟨0, hz0, by simp⟩)
        exact this
      · have h1 := hi j (by omega)
        have e2 : (⟨b, off, none⟩ : Addr).add j = ⟨b, off + j, none⟩ := by
          unfold Addr.add
          by_cases h0 : j = 0
          · subst h0; simp
          · rw [if_neg h0]
        rw [e2] at h1
        exact h1
    · have hjl : j < zs.length := by omega
      have : zs.getD j 0 = zs[j] := by simp [List.getD, List.getElem?_eq_getElem hjl]
      show (Lit.int k (zs.getD j 0)).wf = true
      rw [this]
      exact hw _ (List.getElem_mem hjl)
/-- a struct by value of one-cell fields: each field with its reading -/
theorem open_agg {r : Reach} {b0 : Nat} {t : TypeId} {fs : Array Field} {v : Value} {d : DataW H} {p : List MemPlace} (hs : P.underlying t = some (.struct fs)) (hone : oneCellFields P fs = true) (hC : P.cellsOf t = fs.size)
    (hv : Value.okWide P w r b0 t v) (h : DataW.Trod enc P w base spare held t v d p) :
    ∃ (cs : Array Value) (ys : List (DataW H × List MemPlace)) (n : Nat), v = .agg cs ∧ cs.size = fs.size ∧ ys.length = fs.size ∧ p = ys.flatMap (·.2) ∧
      ∀ (j : Nat) (f : Field), fs[j]? = some f → ∃ (u : Value) (y : DataW H × List MemPlace), cs[j]? = some u ∧ ys[j]? = some y ∧ DataW.trod enc P w base spare held n f.type [u] = some y := by
  obtain ⟨cs, rfl, hsz⟩ := okWide_struct hs hv
  obtain ⟨fuel, hf⟩ := h
  obtain ⟨ys, n, _, hx, _, hlen, hff⟩ := DataW.trod_struct hs hf
  simp only [Prod.mk.injEq] at hx
  refine ⟨cs, ys, n, rfl, hsz.trans hC, hlen, hx.2, fun j f hj => ?_⟩
  obtain ⟨o, k⟩ := hone_of hone j f hj
  have hjl : j < fs.size := (Array.getElem?_eq_some_iff.1 hj).1
  have hjc : j < cs.size := by rw [hsz, hC]; exact hjl
  have hjy : j < ys.length := by rw [hlen]; exact hjl
  refine ⟨cs[j], ys[j], Array.getElem?_eq_getElem hjc, List.getElem?_eq_getElem hjy, ?_⟩
  have h1 := hff j f hj
  rw [o, k] at h1
  have e : (Value.agg cs).cells.toList.drop j = cs[j] :: (Value.agg cs).cells.toList.drop (j + 1) := by
    have : (Value.agg cs).cells.toList = cs.toList := by simp [Value.cells]
    rw [this, List.drop_eq_getElem_cons (by simpa using hjc)]
    simp
  rw [e, List.getElem?_eq_getElem hjy] at h1
  simpa using h1
end
theorem all_types {P : Program} {ts : List TypeId} (h : (ts.all fun t => P.readableRec t && decide (t < P.types.size)) = true) : ∀ t ∈ ts, P.readableRec t = true ∧ t < P.types.size := fun t ht => by
  have := List.all_eq_true.1 h t ht
  simpa using this
theorem wf_b {n : Int} (h : (Lit.int .i64 n).wf = true) : -9223372036854775808 ≤ n ∧ n ≤ 9223372036854775807 := by
  simpa [Lit.wf, IntKind.min, IntKind.max, IntKind.signed, IntKind.bits] using h
end Go.Ks
