/- Closing a law's row whose code names package-level variables: general lemmas over any program. -/
import Derived.Test.YthjllledhcfnhaaGreatDoorRowBase
import Derived.WideKeyArgs
namespace Go.Ks
open Go.ChangeShapes Go.WideShapes Go.Deep Go.RowKit Go.WideElems Go.Joins
section
variable {H : Type} {enc : TypeId × Value → H} {P : Program}

theorem var_stays {W W' : World} {n : String} {cs : Array Value} (hb : Below W.heap.size W W') (h : W.var? P n = some cs) : W'.var? P n = some cs := by
  unfold World.var? at h ⊢
  cases hg : P.globalNamed n with
  | none => rw [hg] at h; cases h
  | some g =>
    rw [hg] at h
    simp only [Option.bind_some] at h ⊢
    have hlt : g < W.heap.size := by
      rcases Nat.lt_or_ge g W.heap.size with hlt | hge
      · exact hlt
      · rw [Array.getElem?_eq_none hge] at h; cases h
    rw [hb.block g hlt]
    exact h
theorem trodVars_cons {W : World} {sp : Nat → Bool} {n : String} {ns : List String} {gs : List (DataW H)} {ps : List MemPlace} (h : DataW.TrodVars enc P W sp (n :: ns) gs ps) : ∃ d ds q, gs = d :: ds ∧ DataW.TrodVars enc P W sp ns ds q := by
  cases gs with
  | nil => exact h.elim
  | cons d ds =>
    obtain ⟨_, _, _, _, _, q, _, _, _, _, h5, _⟩ := h
    exact ⟨d, ds, q, rfl, h5⟩
/-- the types of named variables read as data -/
def VarsOk (P : Program) (ns : List String) : Prop := ∀ n ∈ ns, ∀ g t, P.globalNamed n = some g → (P.globals[g]?).map (·.type) = some t → P.readableRec t = true ∧ t < P.types.size
theorem varsOk_of {ns : List String} (h : (ns.all fun n => match P.globalNamed n with | some g => (match (P.globals[g]?).map (·.type) with | some t => P.readableRec t && decide (t < P.types.size) | none => true) | none => true) = true) : VarsOk P ns := fun n hn g t hg ht => by
  have := List.all_eq_true.1 h n hn
  simp only [hg, ht, Bool.and_eq_true, decide_eq_true_eq] at this
  exact this
theorem trodVars_stays (hl : laidOutB P = true) {W W' : World} (hb : Below W.heap.size W W') : ∀ (ns : List String) (gs : List (DataW H)) (ps : List MemPlace),
    VarsOk P ns → DataW.TrodVars enc P W (fun _ => true) ns gs ps → (∀ x ∈ ps, x.block < W.heap.size) →
    ∀ sp : Nat → Bool, (∀ p ∈ ps, sp p.block = true) → DataW.TrodVars enc P W' sp ns gs ps
  | [], [], _, _, h, _, _, _ => h
  | n :: ns, d :: ds, ps, hv, h, hlt, sp, hsp => by
    obtain ⟨g, t, cs, fuel, p, q, h1, h2, h3, h4, h5, rfl⟩ := h
    obtain ⟨hr, hrow⟩ := hv n (by simp) g t h1 h2
    refine ⟨g, t, cs, fuel, p, q, h1, h2, var_stays hb h3, ?_, ?_, rfl⟩
    · exact DataW.trod_stays (kids_book hl hr) (book_sized hr) (fun h => by cases h) ⟨hrow, book_self t⟩ h4 (fun x hx => hb.same (hlt x (by simp [hx]))) (fun x hx => hsp x (by simp [hx]))
    · exact trodVars_stays hl hb ns ds q (fun m hm => hv m (by simp [hm])) h5 (fun x hx => hlt x (by simp [hx])) sp (fun x hx => hsp x (by simp [hx]))
  | [], _ :: _, _, _, h, _, _, _ => h.elim
  | _ :: _, [], _, _, h, _, _, _ => h.elim

/-- a law that names variables: it answered true and below the old heap's size nothing has turned -/
theorem law_postV {f : Func} {s : ChangeSpec} {tb : TypeId} {W W' : World} {args : Array Value} {ds gs : List (DataW H)} {before : List MemPlace} (hl : laidOutB P = true)
    (hts : ∀ t ∈ f.params.toList, P.readableRec t = true ∧ t < P.types.size) (hvs : VarsOk P s.vars) (hr : f.resultTypes = #[tb]) (htb : P.underlying tb = some .bool)
    (hW : DataW.Whole enc P f.params.toList s.vars false W args.toList ds gs before)
    (hres : (s.fn H (ds ++ gs)).results = [.lit (.bool true)]) (harg : (s.fn H (ds ++ gs)).args = ds) (hvar : (s.fn H (ds ++ gs)).vars = gs)
    (hb : Below W.heap.size W W') : s.post enc P f false true false false W args (.bool true) W' := by
  have hW' := hW
  obtain ⟨p, q, hA, hV, hbef, _, _⟩ := hW
  have hlb : ∀ x ∈ before, x.block < W.heap.size := fun x hx => hW'.lt x hx
  have hlp : ∀ x ∈ p, x.block < W.heap.size := fun x hx => hlb x (by rw [hbef]; simp [hx])
  have hlq : ∀ x ∈ q, x.block < W.heap.size := fun x hx => hlb x (by rw [hbef]; simp [hx])
  have e1 : ∀ (b : Nat) (sp : Nat → Bool) (hd : Bool), DataW.TrodAll enc P W' b sp hd f.resultTypes.toList ((Value.bool true).resultList f.resultTypes.size) (s.fn H (ds ++ gs)).results [] := fun b sp hd => by
    rw [hr, hres]
    exact trodAll_cons_mk (shut_bool htb _) trodAll_mk0
  have e2 : ∀ sp : Nat → Bool, (∀ x ∈ before, sp x.block = true) → DataW.TrodAll enc P W' 0 sp true f.params.toList args.toList (s.fn H (ds ++ gs)).args p := fun sp hsp => by
    rw [harg]
    exact trodAll_stays hl hb _ _ _ _ hts hA hlp sp (fun x hx => hsp x (by rw [hbef]; simp [hx]))
  have e3 : ∀ sp : Nat → Bool, (∀ x ∈ before, sp x.block = true) → DataW.TrodVars enc P W' sp s.vars (s.fn H (ds ++ gs)).vars q := fun sp hsp => by
    rw [hvar]
    exact trodVars_stays hl hb _ _ _ hvs hV hlq sp (fun x hx => hsp x (by rw [hbef]; simp [hx]))
  have hold : ∀ x ∈ before, (fun b => decide (b < W.heap.size)) x.block = true := fun x hx => by simpa using hW'.lt x hx
  refine ⟨ds, gs, before, [], p, q, hW', e1 _ _ _, e2 _ hold, e3 _ hold, World.keptBut_mono (fun x hx => ⟨hx, ?_⟩) (hb.frame (· ∈ before)), fun _ => ?_⟩
  · rw [hbef] at hx
    rcases List.mem_append.1 hx with hx | hx
    · exact Or.inr (Or.inl hx)
    · exact Or.inr (Or.inr hx)
  · obtain ⟨_, _, _, _, _, hz, hn⟩ := hW'
    refine ⟨ok_one hr rfl (okWide_bool_mk htb _), _, _, ([] ++ p) ++ q, ⟨[] ++ p, q, trodAll_append (e2 _ (fun _ _ => rfl)) (e1 _ _ _), e3 _ (fun _ _ => rfl), rfl, ?_, ?_⟩, ?_⟩
    · intro b off hp
      have hin : MemPlace.cell b off ∈ before := by rw [hbef]; simpa using hp
      rw [hb.frozen (p := ⟨b, off, none⟩) (hlb _ hin)]
      exact hz b off hin
    · intro ha; cases ha
    · intro x hx _
      rw [hbef]
      simpa using hx
end
end Go.Ks
