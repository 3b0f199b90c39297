/- The statement about FnExactValidCue. No condition. -/
import Derived.Test.YtikonccofaiceaaLExactValidCue
import Derived.Test.YtikonccofaiceaaRowBase
namespace Go.Proofs.Ytikonccofaiceaa
open Go.ChangeShapes Go.WideShapes Go.ChangeAt Go.RowKit Go.Ks
set_option linter.unusedVariables false

set_option maxRecDepth 100000 in
theorem openCueV {H : Type} {enc : TypeId × Value → H} {w : World} {base : Nat} {held : Bool} {r : Reach} {b0 : Nat} {v : Value} {d : DataW H} {p : List MemPlace}
    (hv : Value.okWide Try.prog w r b0 23 v) (h : DataW.Trod enc Try.prog w base (fun _ => true) held 23 v d p) :
    ∃ x0 x1 x2 x3 x4 x5, v = .agg #[.string x0, .int .i64 x1, .int .i64 x2, .string x3, .int .i64 x4, .int .i64 x5] ∧ x0.size ≤ 9223372036854775807 ∧ (-9223372036854775808 ≤ x1 ∧ x1 ≤ 9223372036854775807) ∧ (-9223372036854775808 ≤ x2 ∧ x2 ≤ 9223372036854775807) ∧ x3.size ≤ 9223372036854775807 ∧ (-9223372036854775808 ≤ x4 ∧ x4 ≤ 9223372036854775807) ∧ (-9223372036854775808 ≤ x5 ∧ x5 ≤ 9223372036854775807) := by
  obtain ⟨cs, ys, n, rfl, hsz, _, _, hf⟩ := open_agg Try.underlying23 (by kernel_rfl) (by kernel_rfl) hv h
  obtain ⟨u0, y0, c0, _, t0⟩ := hf 0 _ rfl
  obtain ⟨u1, y1, c1, _, t1⟩ := hf 1 _ rfl
  obtain ⟨u2, y2, c2, _, t2⟩ := hf 2 _ rfl
  obtain ⟨u3, y3, c3, _, t3⟩ := hf 3 _ rfl
  obtain ⟨u4, y4, c4, _, t4⟩ := hf 4 _ rfl
  obtain ⟨u5, y5, c5, _, t5⟩ := hf 5 _ rfl
  obtain ⟨x0, q0, _, w0⟩ := DataW.trod_string Try.underlying9 t0
  obtain ⟨x1, q1, _, w1⟩ := DataW.trod_int Try.underlying2 t1
  obtain ⟨x2, q2, _, w2⟩ := DataW.trod_int Try.underlying2 t2
  obtain ⟨x3, q3, _, w3⟩ := DataW.trod_string Try.underlying9 t3
  obtain ⟨x4, q4, _, w4⟩ := DataW.trod_int Try.underlying2 t4
  obtain ⟨x5, q5, _, w5⟩ := DataW.trod_int Try.underlying2 t5
  injection q0 with q0; subst q0
  injection q1 with q1; subst q1
  injection q2 with q2; subst q2
  injection q3 with q3; subst q3
  injection q4 with q4; subst q4
  injection q5 with q5; subst q5
  refine ⟨x0, x1, x2, x3, x4, x5, ?_, w0, wf_b w1, wf_b w2, w3, wf_b w4, wf_b w5⟩
  congr 1
  apply Array.ext_getElem?
  intro j
  match j with
  | 0 => rw [c0]; rfl
  | 1 => rw [c1]; rfl
  | 2 => rw [c2]; rfl
  | 3 => rw [c3]; rfl
  | 4 => rw [c4]; rfl
  | 5 => rw [c5]; rfl
  | j + 6 => rw [Array.getElem?_eq_none (by rw [hsz]; simp), Array.getElem?_eq_none (by simp)]

namespace fnExactValidCue
theorem own : ownKnob Try.prog.godebug = none := by kernel_rfl
theorem pts : (Try.f3.params.toList.all fun t => Try.prog.readableRec t && decide (t < Try.prog.types.size)) = true := by kernel_rfl
theorem laid : laidOutB Try.prog = true := by kernel_rfl
set_option maxRecDepth 100000 in
theorem lifted (os : Os) (started : os.Started) (H : Type) (enc : TypeId × Value → H) :
    ReturnsInHanded {} Try.checked os 3 .any (Rows.fnExactValidCueSpec.pre6 enc Try.prog Try.f3 Rows.fnExactValidCueRow.domain false) (Rows.fnExactValidCueSpec.post enc Try.prog Try.f3 false true false false) := by
  refine returnsInHanded_of_change (C := Try.checked) own started (by kernel_rfl) Try.func3
    (ChangeSpec.witness6 (enc := enc) (C := Try.checked) false ⟨#[], #[.agg #[.string .empty, .int .i64 0, .int .i64 0, .string .empty, .int .i64 0, .int .i64 0]], []⟩ 12 (by kernel_rfl) (by kernel_rfl) (by kernel_rfl) (by kernel_rfl)) ?_
  intro W base args ds gs before hval0 hW hcnd _
  have hval : ∀ (j : Nat) t v, Try.f3.params[j]? = some t → args[j]? = some v → Value.okWide Try.prog W .any base t v := hval0
  have hW' := hW
  obtain ⟨p, q, hA0, hV, rfl, hfz, hnd⟩ := hW
  have hA : DataW.TrodAll enc Try.prog W 0 (fun _ => true) true Try.f3.params.toList args.toList ds p := hA0
  rw [Try.params3] at hA hval
  obtain ⟨v0, vs0, d0, ds0, p0, q0, hargs, rfl, rfl, h0, r0⟩ := trodAll_cons hA
  obtain ⟨rfl, rfl, rfl⟩ := trodAll_nil r0
  obtain rfl : args = #[v0] := by cases args; simp_all
  obtain ⟨rfl, rfl⟩ := trodVars_none hV
  have hlt := fun x hx => hW'.lt x hx
  simp only [List.append_nil] at hlt
  obtain ⟨x0_0, x0_1, x0_2, x0_3, x0_4, x0_5, rfl, y0_0, y0_1, y0_2, y0_3, y0_4, y0_5⟩ := openCueV (hval 0 23 v0 rfl rfl) h0
  refine (lawValidCue x0_0 x0_1 x0_2 x0_3 x0_4 x0_5 W y0_0 y0_1 y0_2 y0_3 y0_4 y0_5).mono fun e W' ⟨he, hb⟩ => ?_
  subst he
  exact ⟨_, rfl, law_post laid (all_types pts) rfl Try.underlying4 rfl hW' rfl rfl rfl hb⟩
theorem proved : Rows.FnExactValidCueSaid :=
  OpenClaim.holds_of_wide 3 Try.f3 rfl rfl rfl rfl rfl rfl rfl ⟨rfl, rfl, rfl, rfl, rfl⟩ rfl rfl rfl rfl rfl (by kernel_rfl) Try.func3 (by kernel_rfl)
    (of_decide_eq_true (by kernel_rfl)) (by unfold Func.isWrapper; first | (rw [if_pos (by decide +kernel)]; kernel_rfl) | (rw [if_neg (by decide +kernel)]; exact ⟨rfl, rfl⟩))
    (fun os started H enc _ => lifted os started H enc)
#print axioms proved
end fnExactValidCue

end Go.Proofs.Ytikonccofaiceaa
