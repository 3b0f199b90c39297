/- The statement about FnExactValidCues. No condition. -/
import Derived.Test.YtikonccofaiceaaLExactValidCues
import Derived.Test.YtikonccofaiceaaRowBase
namespace Go.Proofs.Ytikonccofaiceaa
open Go.ChangeShapes Go.WideShapes Go.ChangeAt Go.RowKit Go.Ks
set_option linter.unusedVariables false

set_option maxRecDepth 100000 in
theorem openCueS {H : Type} {enc : TypeId × Value → H} {w : World} {base : Nat} {held : Bool} {r : Reach} {b0 : Nat} {v : Value} {d : DataW H} {p : List MemPlace}
    (hv : Value.okWide Try.prog w r b0 29 v) (h : DataW.Trod enc Try.prog w base (fun _ => true) held 29 v d p) (hlt : ∀ x ∈ p, x.block < w.heap.size) :
    ∃ (A : Option Addr) (n c : Nat) (l : Nat → CueD), v = .slice A n c ∧ n ≤ 9223372036854775807 ∧ Sl w A (n * 6) (CueC l) ∧ ∀ k, k < n → CueOk (l k) := by
  obtain ⟨A, n, c, l, h1, h2, h3, h4, h5⟩ := open_rows CueF CueOk Try.underlying29 Try.underlying23 (by kernel_rfl) (by kernel_rfl) (by decide) (fun c hc => by
    obtain ⟨_, _, t0⟩ := hc 0 _ rfl
    obtain ⟨_, _, t1⟩ := hc 1 _ rfl
    obtain ⟨_, _, t2⟩ := hc 2 _ rfl
    obtain ⟨_, _, t3⟩ := hc 3 _ rfl
    obtain ⟨_, _, t4⟩ := hc 4 _ rfl
    obtain ⟨_, _, t5⟩ := hc 5 _ rfl
    obtain ⟨x0, q0, _, w0⟩ := DataW.trod_string Try.underlying9 t0
    obtain ⟨x1, q1, _, w1⟩ := DataW.trod_int Try.underlying2 t1
    obtain ⟨x2, q2, _, w2⟩ := DataW.trod_int Try.underlying2 t2
    obtain ⟨x3, q3, _, w3⟩ := DataW.trod_string Try.underlying9 t3
    obtain ⟨x4, q4, _, w4⟩ := DataW.trod_int Try.underlying2 t4
    obtain ⟨x5, q5, _, w5⟩ := DataW.trod_int Try.underlying2 t5
    refine ⟨⟨x0, x1, x2, x3, x4, x5⟩, ⟨w0, wf_b w1, wf_b w2, w3, wf_b w4, wf_b w5⟩, fun l k hl j hj => ?_⟩
    match j, hj with
    | 0, _ => show Value.string (l k).f0 = c 0; rw [hl]; injection q0 with q; exact q.symm
    | 1, _ => show Value.int .i64 (l k).f1 = c 1; rw [hl]; injection q1 with q; exact q.symm
    | 2, _ => show Value.int .i64 (l k).f2 = c 2; rw [hl]; injection q2 with q; exact q.symm
    | 3, _ => show Value.string (l k).f3 = c 3; rw [hl]; injection q3 with q; exact q.symm
    | 4, _ => show Value.int .i64 (l k).f4 = c 4; rw [hl]; injection q4 with q; exact q.symm
    | 5, _ => show Value.int .i64 (l k).f5 = c 5; rw [hl]; injection q5 with q; exact q.symm
    ) hv h hlt
  exact ⟨A, n, c, l, h1, by unfold maxLen at h3; omega, h4, h5⟩

namespace fnExactValidCues
theorem own : ownKnob Try.prog.godebug = none := by kernel_rfl
theorem pts : (Try.f5.params.toList.all fun t => Try.prog.readableRec t && decide (t < Try.prog.types.size)) = true := by kernel_rfl
theorem laid : laidOutB Try.prog = true := by kernel_rfl
set_option maxRecDepth 100000 in
theorem lifted (os : Os) (started : os.Started) (H : Type) (enc : TypeId × Value → H) :
    ReturnsInHanded {} Try.checked os 5 .any (Rows.fnExactValidCuesSpec.pre6 enc Try.prog Try.f5 Rows.fnExactValidCuesRow.domain false) (Rows.fnExactValidCuesSpec.post enc Try.prog Try.f5 false true false false) := by
  refine returnsInHanded_of_change (C := Try.checked) own started (by kernel_rfl) Try.func5
    (ChangeSpec.witness6 (enc := enc) (C := Try.checked) false ⟨#[], #[.slice none 0 0], []⟩ 12 (by kernel_rfl) (by kernel_rfl) (by kernel_rfl) (by kernel_rfl)) ?_
  intro W base args ds gs before hval0 hW hcnd _
  have hval : ∀ (j : Nat) t v, Try.f5.params[j]? = some t → args[j]? = some v → Value.okWide Try.prog W .any base t v := hval0
  have hW' := hW
  obtain ⟨p, q, hA0, hV, rfl, hfz, hnd⟩ := hW
  have hA : DataW.TrodAll enc Try.prog W 0 (fun _ => true) true Try.f5.params.toList args.toList ds p := hA0
  rw [Try.params5] at hA hval
  obtain ⟨v0, vs0, d0, ds0, p0, q0, hargs, rfl, rfl, h0, r0⟩ := trodAll_cons hA
  obtain ⟨rfl, rfl, rfl⟩ := trodAll_nil r0
  obtain rfl : args = #[v0] := by cases args; simp_all
  obtain ⟨rfl, rfl⟩ := trodVars_none hV
  have hlt := fun x hx => hW'.lt x hx
  simp only [List.append_nil] at hlt
  obtain ⟨A0, n0, c0, l0, rfl, b0, s0, g0⟩ := openCueS (hval 0 29 v0 rfl rfl) h0 (fun x hx => hlt x (hx))
  refine (lawValidCues A0 n0 c0 l0 W b0 s0 g0).mono fun e W' ⟨he, hb⟩ => ?_
  subst he
  exact ⟨_, rfl, law_post laid (all_types pts) rfl Try.underlying4 rfl hW' rfl rfl rfl hb⟩
theorem proved : Rows.FnExactValidCuesSaid :=
  OpenClaim.holds_of_wide 5 Try.f5 rfl rfl rfl rfl rfl rfl rfl ⟨rfl, rfl, rfl, rfl, rfl⟩ rfl rfl rfl rfl rfl (by kernel_rfl) Try.func5 (by kernel_rfl)
    (of_decide_eq_true (by kernel_rfl)) (by unfold Func.isWrapper; first | (rw [if_pos (by decide +kernel)]; kernel_rfl) | (rw [if_neg (by decide +kernel)]; exact ⟨rfl, rfl⟩))
    (fun os started H enc _ => lifted os started H enc)
#print axioms proved
end fnExactValidCues

end Go.Proofs.Ytikonccofaiceaa
