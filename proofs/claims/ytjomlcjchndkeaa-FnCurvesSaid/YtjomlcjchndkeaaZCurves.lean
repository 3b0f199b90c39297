/- The statement about FnCurves. No condition. -/
import Derived.Test.YtjomlcjchndkeaaFnCurves
import Derived.Test.YtjomlcjchndkeaaRowBase
namespace Go.Proofs.Ytjomlcjchndkeaa
open Go.ChangeShapes Go.WideShapes Go.ChangeAt Go.RowKit Go.Ks
set_option linter.unusedVariables false

set_option maxRecDepth 100000 in
theorem openBytes {H : Type} {enc : TypeId × Value → H} {w : World} {base : Nat} {held : Bool} {r : Reach} {b0 : Nat} {v : Value} {d : DataW H} {p : List MemPlace}
    (hv : Value.okWide Try.prog w r b0 39 v) (h : DataW.Trod enc Try.prog w base (fun _ => true) held 39 v d p) (hlt : ∀ x ∈ p, x.block < w.heap.size) :
    ∃ (A : Option Addr) (n c : Nat) (l : Nat → Int), v = .slice A n c ∧ n ≤ 9223372036854775807 ∧ Sl w A (n * 1) (ByteC l) ∧ ∀ k, k < n → 0 ≤ l k ∧ l k ≤ 255 := by
  obtain ⟨A, n, c, l, h1, h2, h3, h4, h5⟩ := open_nums Try.underlying39 Try.underlying5 (by kernel_rfl) hv h hlt
  exact ⟨A, n, c, l, h1, by unfold maxLen at h3; omega, h4, fun k hk => by have := h5 k hk; simpa [Lit.wf, IntKind.min, IntKind.max, IntKind.signed, IntKind.bits] using this⟩

namespace fnCurves
theorem own : ownKnob Try.prog.godebug = none := by kernel_rfl
theorem pts : (Try.f9.params.toList.all fun t => Try.prog.readableRec t && decide (t < Try.prog.types.size)) = true := by kernel_rfl
theorem laid : laidOutB Try.prog = true := by kernel_rfl
set_option maxRecDepth 100000 in
theorem lifted (os : Os) (started : os.Started) (H : Type) (enc : TypeId × Value → H) :
    ReturnsInHanded {} Try.checked os 9 .any (Rows.fnCurvesSpec.pre6 enc Try.prog Try.f9 Rows.fnCurvesRow.domain false) (Rows.fnCurvesSpec.post enc Try.prog Try.f9 false true false false) := by
  refine returnsInHanded_of_change (C := Try.checked) own started (by kernel_rfl) Try.func9
    (ChangeSpec.witness6 (enc := enc) (C := Try.checked) false ⟨#[], #[.slice none 0 0, .slice none 0 0], []⟩ 12 (by kernel_rfl) (by kernel_rfl) (by kernel_rfl) (by kernel_rfl)) ?_
  intro W base args ds gs before hval0 hW hcnd _
  have hval : ∀ (j : Nat) t v, Try.f9.params[j]? = some t → args[j]? = some v → Value.okWide Try.prog W .any base t v := hval0
  have hW' := hW
  obtain ⟨p, q, hA0, hV, rfl, hfz, hnd⟩ := hW
  have hA : DataW.TrodAll enc Try.prog W 0 (fun _ => true) true Try.f9.params.toList args.toList ds p := hA0
  rw [Try.params9] at hA hval
  obtain ⟨v0, vs0, d0, ds0, p0, q0, hargs, rfl, rfl, h0, r0⟩ := trodAll_cons hA
  obtain ⟨v1, vs1, d1, ds1, p1, q1, rfl, rfl, rfl, h1, r1⟩ := trodAll_cons r0
  obtain ⟨rfl, rfl, rfl⟩ := trodAll_nil r1
  obtain rfl : args = #[v0, v1] := by cases args; simp_all
  obtain ⟨rfl, rfl⟩ := trodVars_none hV
  have hlt := fun x hx => hW'.lt x hx
  simp only [List.append_nil, List.mem_append] at hlt
  obtain ⟨A0, n0, c0, l0, rfl, b0, s0, g0⟩ := openBytes (hval 0 39 v0 rfl rfl) h0 (fun x hx => hlt x (.inl hx))
  obtain ⟨A1, n1, c1, l1, rfl, b1, s1, g1⟩ := openBytes (hval 1 39 v1 rfl rfl) h1 (fun x hx => hlt x (.inr (hx)))
  refine (fnCurves_any A0 n0 c0 l0 A1 n1 c1 l1 W b0 s0 g0 b1 s1 g1).mono fun e W' ⟨he, hb⟩ => ?_
  subst he
  exact ⟨_, rfl, law_post laid (all_types pts) rfl Try.underlying4 rfl hW' rfl rfl rfl hb⟩
theorem proved : Rows.FnCurvesSaid :=
  OpenClaim.holds_of_wide 9 Try.f9 rfl rfl rfl rfl rfl rfl rfl ⟨rfl, rfl, rfl, rfl, rfl⟩ rfl rfl rfl rfl rfl (by kernel_rfl) Try.func9 (by kernel_rfl)
    (of_decide_eq_true (by kernel_rfl)) (by unfold Func.isWrapper; first | (rw [if_pos (by decide +kernel)]; kernel_rfl) | (rw [if_neg (by decide +kernel)]; exact ⟨rfl, rfl⟩))
    (fun os started H enc _ => lifted os started H enc)
#print axioms proved
end fnCurves

end Go.Proofs.Ytjomlcjchndkeaa
