/- The statement about FnExactMeshText. No condition. -/
import Derived.Test.YtikonccofaiceaaDoorLExactMeshText
import Derived.Test.YtikonccofaiceaaDoorRowBase
import Derived.Test.YtikonccofaiceaaDoorRowVars
import Derived.Test.YtikonccofaiceaaDoorTabTen
import Derived.Test.YtikonccofaiceaaDoorTie
import Derived.Test.YtikonccofaiceaaDoorCards
import Derived.SevenTiedAt
import Derived.LaidMore
namespace Go.Proofs.YtikonccofaiceaaDoor
open Go.ChangeShapes Go.WideShapes Go.ChangeAt Go.RowKit Go.Ks
set_option linter.unusedVariables false

set_option maxRecDepth 100000 in
theorem openMesh {H : Type} {enc : TypeId × Value → H} {w : World} {base : Nat} {held : Bool} {r : Reach} {b0 : Nat} {v : Value} {d : DataW H} {p : List MemPlace}
    (hv : Value.okWide Tryd.prog w r b0 24 v) (h : DataW.Trod enc Tryd.prog w base (fun _ => true) held 24 v d p) (hlt : ∀ x ∈ p, x.block < w.heap.size) :
    ∃ (C R : Int) (A : Option Addr) (n c : Nat) (l : Nat → SpotD), v = .agg #[.int .i64 C, .int .i64 R, .slice A n c] ∧ (-9223372036854775808 ≤ C ∧ C ≤ 9223372036854775807) ∧ (-9223372036854775808 ≤ R ∧ R ≤ 9223372036854775807) ∧ n ≤ 9223372036854775807 ∧ Sl w A (n * 2) (SpotC l) ∧ ∀ k, k < n → SpotOk (l k) := by
  obtain ⟨v0, v1, v2, y0, y1, y2, n, rfl, _, hp, t0, t1, t2⟩ := Joins.open_agg3 Tryd.underlying24 (by kernel_rfl) (by kernel_rfl) hv h
  obtain ⟨C, q0, _, w0⟩ := DataW.trod_int Tryd.underlying2 t0
  obtain ⟨R, q1, _, w1⟩ := DataW.trod_int Tryd.underlying2 t1
  injection q0 with q0; subst q0
  injection q1 with q1; subst q1
  obtain ⟨a, l, c, q2⟩ := Joins.slice_form Tryd.underlying22 t2
  injection q2 with q2; subst q2
  obtain ⟨A, n, c, l, h1, h2, h3, h4, h5⟩ := open_rows0 SpotF SpotOk Tryd.underlying22 Tryd.underlying115 (by kernel_rfl) (by kernel_rfl) (by decide) (fun c hc => by
    obtain ⟨_, _, t0⟩ := hc 0 _ rfl
    obtain ⟨_, _, t1⟩ := hc 1 _ rfl
    obtain ⟨x0, q0, _, w0⟩ := DataW.trod_int Tryd.underlying2 t0
    obtain ⟨x1, q1, _, w1⟩ := DataW.trod_int Tryd.underlying2 t1
    refine ⟨⟨x0, x1⟩, ⟨wf_b w0, wf_b w1⟩, fun l k hl j hj => ?_⟩
    match j, hj with
    | 0, _ => show Value.int .i64 (l k).f0 = c 0; rw [hl]; injection q0 with q; exact q.symm
    | 1, _ => show Value.int .i64 (l k).f1 = c 1; rw [hl]; injection q1 with q; exact q.symm
    ) ⟨a, l, c, rfl⟩ (d := y2.1) (p := y2.2) ⟨_, t2⟩ (fun x hx => hlt x (by rw [hp]; simp [hx]))
  exact ⟨C, R, A, n, c, l, by rw [h1], wf_b w0, wf_b w1, by unfold maxLen at h3; omega, h4, h5⟩

namespace fnExactMeshText
theorem own : ownKnob Tryd.prog.godebug = none := by kernel_rfl
theorem pts : (Tryd.f3.params.toList.all fun t => Tryd.prog.readableRec t && decide (t < Tryd.prog.types.size)) = true := by kernel_rfl
theorem laid : laidOutB Tryd.prog = true := by kernel_rfl
theorem door_met (os : Os) (args : Array Value) : laidMetH Tryd.prog [("math/bits.deBruijn32tab", Rows.laid_math_bits_deBruijn32tab), ("math/bits.deBruijn64tab", Rows.laid_math_bits_deBruijn64tab), ("internal/strconv.uint64pow10", Rows.laid_internal_strconv_uint64pow10)] ((World.doorLaid Tryd.prog 72 os).forCall (fun _ _ => 0) ⟨#[], args, []⟩).memory :=
  laidMetH_of_parts3 (fuel := 8) (laidMet_of_run' 8 (by kernel_rfl) (by kernel_rfl)) (by kernel_rfl) (by kernel_rfl)
set_option maxRecDepth 100000 in
theorem lifted (os : Os) (started : os.Started) (H : Type) (enc : TypeId × Value → H) :
    ReturnsInHanded {} Tryd.checked os 3 .any (fun w args => (Rows.fnExactMeshTextSpec.pre enc Tryd.prog Tryd.f3 [] false w args ∧ laidMetH Tryd.prog [("math/bits.deBruijn32tab", Rows.laid_math_bits_deBruijn32tab), ("math/bits.deBruijn64tab", Rows.laid_math_bits_deBruijn64tab), ("internal/strconv.uint64pow10", Rows.laid_internal_strconv_uint64pow10)] w) ∧ sizedMet enc Tryd.prog Tryd.f3 (OpenSpec.ofChange Rows.fnExactMeshTextSpec) false w args)
      (Rows.fnExactMeshTextSpec.post enc Tryd.prog Tryd.f3 false true false false) := by
  refine returnsInHanded_of_change_and (C := Tryd.checked) (X := fun w _ => laidMetH Tryd.prog [("math/bits.deBruijn32tab", Rows.laid_math_bits_deBruijn32tab), ("math/bits.deBruijn64tab", Rows.laid_math_bits_deBruijn64tab), ("internal/strconv.uint64pow10", Rows.laid_internal_strconv_uint64pow10)] w) (fun _ _ _ hh h => h.of_heap hh) own started (by kernel_rfl) Tryd.func3
    (ChangeSpec.witness_shaped (enc := enc) (C := Tryd.checked) (os := os) (X := fun w _ => laidMetH Tryd.prog [("math/bits.deBruijn32tab", Rows.laid_math_bits_deBruijn32tab), ("math/bits.deBruijn64tab", Rows.laid_math_bits_deBruijn64tab), ("internal/strconv.uint64pow10", Rows.laid_internal_strconv_uint64pow10)] w) false (World.doorLaid Tryd.prog 72 os) #[.agg #[.int .i64 0, .int .i64 0, .slice none 0 0]] 12 rfl (World.shaped_of_RefB (by kernel_rfl) (by kernel_rfl)) (by kernel_rfl) (by kernel_rfl) (by kernel_rfl) (door_met os _)) ?_
  intro W base args ds gs before hval0 hW _ _ hL _
  have hL2 := hL
  rw [MakeChecks.laidMetH_plain _ _ _ (by kernel_rfl)] at hL2
  have hT := tab_of_laid hL2
  have hval : ∀ (j : Nat) t v, Tryd.f3.params[j]? = some t → args[j]? = some v → Value.okWide Tryd.prog W .any base t v := hval0
  have hW' := hW
  obtain ⟨p, q, hA0, hV, rfl, hfz, hnd⟩ := hW
  have hA : DataW.TrodAll enc Tryd.prog W 0 (fun _ => true) true Tryd.f3.params.toList args.toList ds p := hA0
  rw [Tryd.params3] at hA hval
  obtain ⟨v0, vs0, d0, ds0, p0, q0, hargs, rfl, rfl, h0, r0⟩ := trodAll_cons hA
  obtain ⟨rfl, rfl, rfl⟩ := trodAll_nil r0
  obtain rfl : args = #[v0] := by cases args; simp_all
  obtain ⟨rfl, rfl⟩ := trodVars_none hV
  have hlt := fun x hx => hW'.lt x hx
  simp only [List.append_nil] at hlt
  obtain ⟨C0, R0, A0, n0, c0, l0, rfl, yc0, yr0, b0, s0, g0⟩ := openMesh (hval 0 24 v0 rfl rfl) h0 (fun x hx => hlt x (hx))
  refine (lawMeshText C0 R0 A0 n0 c0 l0 W yc0 yr0 b0 s0 g0 hT).mono fun e W' ⟨he, hb⟩ => ?_
  subst he
  exact ⟨_, rfl, law_post laid (all_types pts) rfl Tryd.underlying4 rfl hW' rfl rfl rfl hb⟩
theorem row_holds : Rows.FnExactMeshTextSaid :=
  OpenClaim.holds_of_wide 3 Tryd.f3 rfl rfl rfl rfl rfl rfl rfl ⟨rfl, rfl, rfl, rfl, rfl⟩ rfl rfl rfl rfl rfl (by kernel_rfl) Tryd.func3 (by kernel_rfl)
    (of_decide_eq_true (by kernel_rfl)) (by unfold Func.isWrapper; first | (rw [if_pos (by decide +kernel)]; kernel_rfl) | (rw [if_neg (by decide +kernel)]; exact ⟨rfl, rfl⟩))
    (fun os started H enc _ => lifted os started H enc)
theorem proved : Rows.FnExactMeshTextCardSaid :=
  Claim7.holds_tied_plain_at .later [] [.data, .data, .data] true (true, "54c58bf759c86f85816ad81b0eb65fdcfcbcfa46993838e63afdbd3a81f747ae") true
    row_holds (fun _ h => by cases h) (by kernel_rfl) (fun _ h => by cases h) fnExactMeshText_row_tie rfl ⟨rfl, rfl⟩ (by kernel_rfl) rfl
    (fun f fn hf hfn => by
      obtain rfl : f = 3 := Option.some.inj ((show Tryd.prog.funcNamed "loop.example/g00955/laws.FnExactMeshText" = some 3 by kernel_rfl).symm.trans hf) |>.symm
      obtain rfl : fn = Tryd.f3 := (Option.some.inj (Tryd.func3.symm.trans hfn)).symm
      exact ⟨by kernel_rfl, fun j t ht => by
        rw [Tryd.params3] at ht
        have hm : t ∈ [24] := by simpa using Array.mem_of_getElem? ht
        have hall : ([24].all fun u => !Tryd.prog.wantsStandIn u) = true := by kernel_rfl
        exact (show Tryd.prog.wantsStandIn t = false by simpa using List.all_eq_true.1 hall t hm)⟩)
    (by kernel_rfl)
#print axioms proved
end fnExactMeshText

end Go.Proofs.YtikonccofaiceaaDoor
