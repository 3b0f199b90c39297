/- The statement about FnExactRefineMesh. No condition. -/
import Derived.Test.YtddcbieomklhnaaLExactRefineMesh
import Derived.Test.YtddcbieomklhnaaRowBase
namespace Go.Proofs.Ytddcbieomklhnaa
open Go.ChangeShapes Go.WideShapes Go.ChangeAt Go.RowKit Go.Ks
set_option linter.unusedVariables false

set_option maxRecDepth 100000 in
theorem openMesh {H : Type} {enc : TypeId × Value → H} {w : World} {base : Nat} {held : Bool} {r : Reach} {b0 : Nat} {v : Value} {d : DataW H} {p : List MemPlace}
    (hv : Value.okWide Try.prog w r b0 24 v) (h : DataW.Trod enc Try.prog w base (fun _ => true) held 24 v d p) (hlt : ∀ x ∈ p, x.block < w.heap.size) :
    ∃ (C R : Int) (A : Option Addr) (n c : Nat) (l : Nat → SpotD), v = .agg #[.int .i64 C, .int .i64 R, .slice A n c] ∧ (-9223372036854775808 ≤ C ∧ C ≤ 9223372036854775807) ∧ (-9223372036854775808 ≤ R ∧ R ≤ 9223372036854775807) ∧ n ≤ 9223372036854775807 ∧ Sl w A (n * 2) (SpotC l) ∧ ∀ k, k < n → SpotOk (l k) := by
  obtain ⟨v0, v1, v2, y0, y1, y2, n, rfl, _, hp, t0, t1, t2⟩ := Joins.open_agg3 Try.underlying24 (by kernel_rfl) (by kernel_rfl) hv h
  obtain ⟨C, q0, _, w0⟩ := DataW.trod_int Try.underlying2 t0
  obtain ⟨R, q1, _, w1⟩ := DataW.trod_int Try.underlying2 t1
  injection q0 with q0; subst q0
  injection q1 with q1; subst q1
  obtain ⟨a, l, c, q2⟩ := Joins.slice_form Try.underlying22 t2
  injection q2 with q2; subst q2
  obtain ⟨A, n, c, l, h1, h2, h3, h4, h5⟩ := open_rows0 SpotF SpotOk Try.underlying22 Try.underlying52 (by kernel_rfl) (by kernel_rfl) (by decide) (fun c hc => by
    obtain ⟨_, _, t0⟩ := hc 0 _ rfl
    obtain ⟨_, _, t1⟩ := hc 1 _ rfl
    obtain ⟨x0, q0, _, w0⟩ := DataW.trod_int Try.underlying2 t0
    obtain ⟨x1, q1, _, w1⟩ := DataW.trod_int Try.underlying2 t1
    refine ⟨⟨x0, x1⟩, ⟨wf_b w0, wf_b w1⟩, fun l k hl j hj => ?_⟩
    match j, hj with
    | 0, _ => show Value.int .i64 (l k).f0 = c 0; rw [hl]; injection q0 with q; exact q.symm
    | 1, _ => show Value.int .i64 (l k).f1 = c 1; rw [hl]; injection q1 with q; exact q.symm
    ) ⟨a, l, c, rfl⟩ (d := y2.1) (p := y2.2) ⟨_, t2⟩ (fun x hx => hlt x (by rw [hp]; simp [hx]))
  exact ⟨C, R, A, n, c, l, by rw [h1], wf_b w0, wf_b w1, by unfold maxLen at h3; omega, h4, h5⟩

namespace fnExactRefineMesh
theorem own : ownKnob Try.prog.godebug = none := by kernel_rfl
theorem pts : (Try.f8.params.toList.all fun t => Try.prog.readableRec t && decide (t < Try.prog.types.size)) = true := by kernel_rfl
theorem laid : laidOutB Try.prog = true := by kernel_rfl
set_option maxRecDepth 100000 in
theorem lifted (os : Os) (started : os.Started) (H : Type) (enc : TypeId × Value → H) :
    ReturnsInHanded {} Try.checked os 8 .any (Rows.fnExactRefineMeshSpec.pre6 enc Try.prog Try.f8 Rows.fnExactRefineMeshRow.domain false) (Rows.fnExactRefineMeshSpec.post enc Try.prog Try.f8 false true false false) := by
  refine returnsInHanded_of_change (C := Try.checked) own started (by kernel_rfl) Try.func8
    (ChangeSpec.witness6 (enc := enc) (C := Try.checked) false ⟨#[], #[.agg #[.int .i64 0, .int .i64 0, .slice none 0 0]], []⟩ 12 (by kernel_rfl) (by kernel_rfl) (by kernel_rfl) (by kernel_rfl)) ?_
  intro W base args ds gs before hval0 hW hcnd _
  have hval : ∀ (j : Nat) t v, Try.f8.params[j]? = some t → args[j]? = some v → Value.okWide Try.prog W .any base t v := hval0
  have hW' := hW
  obtain ⟨p, q, hA0, hV, rfl, hfz, hnd⟩ := hW
  have hA : DataW.TrodAll enc Try.prog W 0 (fun _ => true) true Try.f8.params.toList args.toList ds p := hA0
  rw [Try.params8] at hA hval
  obtain ⟨v0, vs0, d0, ds0, p0, q0, hargs, rfl, rfl, h0, r0⟩ := trodAll_cons hA
  obtain ⟨rfl, rfl, rfl⟩ := trodAll_nil r0
  obtain rfl : args = #[v0] := by cases args; simp_all
  obtain ⟨rfl, rfl⟩ := trodVars_none hV
  have hlt := fun x hx => hW'.lt x hx
  simp only [List.append_nil] at hlt
  obtain ⟨C0, R0, A0, n0, c0, l0, rfl, yc0, yr0, b0, s0, g0⟩ := openMesh (hval 0 24 v0 rfl rfl) h0 (fun x hx => hlt x (hx))
  refine (lawRefineMesh C0 R0 A0 n0 c0 l0 W yc0 yr0 b0 s0 g0).mono fun e W' ⟨he, hb⟩ => ?_
  subst he
  exact ⟨_, rfl, law_post laid (all_types pts) rfl Try.underlying4 rfl hW' rfl rfl rfl hb⟩
theorem proved : Rows.FnExactRefineMeshSaid :=
  OpenClaim.holds_of_wide 8 Try.f8 rfl rfl rfl rfl rfl rfl rfl ⟨rfl, rfl, rfl, rfl, rfl⟩ rfl rfl rfl rfl rfl (by kernel_rfl) Try.func8 (by kernel_rfl)
    (of_decide_eq_true (by kernel_rfl)) (by unfold Func.isWrapper; first | (rw [if_pos (by decide +kernel)]; kernel_rfl) | (rw [if_neg (by decide +kernel)]; exact ⟨rfl, rfl⟩))
    (fun os started H enc _ => lifted os started H enc)
#print axioms proved
end fnExactRefineMesh

end Go.Proofs.Ytddcbieomklhnaa
